/-
  Rule, layer 11: comparing rules.
-/
import Derived.Test.YtmfjebpefneboaaDoorRlJ
import Derived.BigRegion
namespace Go.Proofs.YtmfjebpefneboaaDoor
set_option linter.unusedVariables false
set_option linter.unusedSimpArgs false
open Go Go.RowKit Go.Shelf
open Lx (Tk)
attribute [local irreducible] Go.wpStill

def SimS (fl : Bool) (a b : Rl.Tst) : Prop := a.attr = b.attr ∧ a.op = b.op ∧ a.name = b.name ∧ a.n = b.n ∧ (fl = true → a.at_ = b.at_)
def SimR (fl : Bool) (r q : List Rl.Tst) : Prop := r.length = q.length ∧ ∀ (j : Nat) (t u : Rl.Tst), r[j]? = some t → q[j]? = some u → SimS fl t u
structure SimI (fl : Bool) (x y : Rl.Itm) : Prop where
  kind : x.kind = y.kind
  name : x.name = y.name
  n : x.n = y.n
  r : x.r = y.r
  s : x.s = y.s
  at_ : fl = true → x.at_ = y.at_
  len : x.whn.length = y.whn.length
  whn : ∀ (i : Nat) (r q : List Rl.Tst), x.whn[i]? = some r → y.whn[i]? = some q → SimR fl r q
theorem SimI.refl (x : Rl.Itm) : SimI true x x := ⟨rfl, rfl, rfl, rfl, rfl, fun _ => rfl, rfl, fun i r q h1 h2 => by
  rw [h1] at h2
  cases h2
  exact ⟨rfl, fun j t u h3 h4 => by
    rw [h3] at h4
    cases h4
    exact ⟨rfl, rfl, rfl, rfl, fun _ => rfl⟩⟩⟩
theorem simI_of_ren {f g : Nat → Nat} {x y : Rl.Itm} (h : Rl.renI f x = Rl.renI g y) : SimI false x y := by
  obtain ⟨k, nm, wh, n, r, s, a⟩ := x
  obtain ⟨k', nm', wh', n', r', s', a'⟩ := y
  simp only [Rl.renI, Rl.Itm.mk.injEq] at h
  obtain ⟨h1, h2, h3, h4, h5, h6, h7⟩ := h
  refine ⟨h1, h2, h4, h5, h6, (fun e => by cases e), ?_, ?_⟩
  · have := congrArg List.length h3
    simpa using this
  · intro i rr q hr hq
    have h8 : (wh.map (·.map (Rl.renS f)))[i]? = (wh'.map (·.map (Rl.renS g)))[i]? := by rw [h3]
    rw [List.getElem?_map, List.getElem?_map] at h8
    simp only at hr hq
    rw [hr, hq] at h8
    simp only [Option.map_some, Option.some.injEq] at h8
    refine ⟨by have := congrArg List.length h8; simpa using this, fun j t u ht hu => ?_⟩
    have h9 : (rr.map (Rl.renS f))[j]? = (q.map (Rl.renS g))[j]? := by rw [h8]
    rw [List.getElem?_map, List.getElem?_map, ht, hu] at h9
    simp only [Option.map_some, Option.some.injEq] at h9
    obtain ⟨t1, t2, t3, t4, t5⟩ := t
    obtain ⟨u1, u2, u3, u4, u5⟩ := u
    simp only [Rl.renS, Rl.Tst.mk.injEq] at h9
    exact ⟨h9.1, h9.2.1, h9.2.2.1, h9.2.2.2.1, (fun e => by cases e)⟩
theorem sametest_spec (w : World) (a b : Rl.Tst) (at_ : Bool) (H : Hid (SimS at_ a b)) :
    Calls Tryd.prog 29 #[.agg #[.string ⟨a.attr.toArray⟩, .int .i64 (a.op : Nat), .string ⟨a.name.toArray⟩, .int .i64 (a.n : Nat), .int .i64 (a.at_ : Nat)], .agg #[.string ⟨b.attr.toArray⟩, .int .i64 (b.op : Nat), .string ⟨b.name.toArray⟩, .int .i64 (b.n : Nat), .int .i64 (b.at_ : Nat)], .bool at_] w
      fun e w' => e = .returned (.bool true) ∧ Chg [] w w' := by
  obtain ⟨a1, a2, a3, a4, a5⟩ := a
  obtain ⟨b1, b2, b3, b4, b5⟩ := b
  obtain ⟨rfl, rfl, rfl, rfl, h5⟩ : a1 = b1 ∧ a2 = b2 ∧ a3 = b3 ∧ a4 = b4 ∧ (at_ = true → a5 = b5) := H.out
  have e1 : (a1 == a1) = true := by simp
  have e2 : (((a2 : Nat) : Int) == (a2 : Nat)) = true := by simp
  have e3 : (a3 == a3) = true := by simp
  have e4 : (((a4 : Nat) : Int) == (a4 : Nat)) = true := by simp
  have hc : Chg [] w ((w.alloc (.cells #[.string ⟨a1.toArray⟩, .int .i64 (a2 : Nat), .string ⟨a3.toArray⟩, .int .i64 (a4 : Nat), .int .i64 (a5 : Nat)] 48)).alloc (.cells #[.string ⟨a1.toArray⟩, .int .i64 (a2 : Nat), .string ⟨a3.toArray⟩, .int .i64 (a4 : Nat), .int .i64 (b5 : Nat)] 48)) := ((Chg.refl _ _).alloc _).alloc _
  have HC := Lib.hid hc
  clear hc
  cases at_ with
  | true =>
    obtain rfl : a5 = b5 := h5 rfl
    have e5 : (((a5 : Nat) : Int) == (a5 : Nat)) = true := by simp
    clear h5
    go_enter Tryd.func29, Tryd.ntmps29
    go_wp2_with fail
    go_ret
    exact ⟨rfl, HC.out⟩
  | false =>
    clear h5
    go_enter Tryd.func29, Tryd.ntmps29
    go_wp2_with fail
    go_ret
    exact ⟨rfl, HC.out⟩
theorem ListS.len_le {α : Type} {w : World} {B : Nat} {E : TypeId} {size : Nat} {C : α → List Value → World → Prop} {l : List α} {v : Value} (h : ListS B E size C l v w) : l.length ≤ 9223372036854775807 := by
  obtain ⟨css, _, _, h3⟩ := h
  rcases h3.2 with ⟨_, h0⟩ | ⟨g, cap, cur, _, _, _, hle, hm, _⟩
  · omega
  · unfold maxLen at hm
    omega
theorem whn_get {B : Nat} {w : World} {l : List (List Rl.Tst)} {v : Value} (h : ListS B 46 1 (Cr B) l v w) {i : Nat} {r : List Rl.Tst} (hr : l[i]? = some r) :
    ∃ g cap go gc, v = .slice (some ⟨g, 0, none⟩) l.length cap ∧ l.length ≤ cap ∧ w.cell? ⟨g, i, none⟩ = some (.slice go r.length gc) ∧ ListS B 48 5 Ct r (.slice go r.length gc) w := by
  obtain ⟨g, cap, cs, h1, h2, h3, h4, ⟨u, rfl, h5⟩, h6, _⟩ := h.get hr
  obtain ⟨go, gc, rfl⟩ := h5.form
  exact ⟨g, cap, go, gc, h1, h2, by simpa using h6 0 _ rfl, h5⟩
theorem tst_get {B : Nat} {w : World} {r : List Rl.Tst} {v : Value} (h : ListS B 48 5 Ct r v w) {j : Nat} {t : Rl.Tst} (ht : r[j]? = some t) :
    ∃ g cap, v = .slice (some ⟨g, 0, none⟩) r.length cap ∧ r.length ≤ cap ∧ w.cell? ⟨g, j * 5, none⟩ = some (.string ⟨t.attr.toArray⟩) ∧ w.cell? ⟨g, j * 5 + 1, none⟩ = some (.int .i64 (t.op : Nat)) ∧ w.cell? ⟨g, j * 5 + 2, none⟩ = some (.string ⟨t.name.toArray⟩) ∧
      w.cell? ⟨g, j * 5 + 3, none⟩ = some (.int .i64 (t.n : Nat)) ∧ w.cell? ⟨g, j * 5 + 4, none⟩ = some (.int .i64 (t.at_ : Nat)) := by
  obtain ⟨g, cap, cs, h1, h2, h3, h4, h5, h6, _⟩ := h.get ht
  have h5 : cs = tstc t := h5
  subst h5
  exact ⟨g, cap, h1, h2, by simpa using h6 0 _ rfl, h6 1 _ rfl, h6 2 _ rfl, h6 3 _ rfl, h6 4 _ rfl⟩
theorem itm_get {B : Nat} {w : World} {l : List Rl.Itm} {v : Value} (h : ListS B 42 9 (Ci B) l v w) {i : Nat} {x : Rl.Itm} (hx : l[i]? = some x) :
    ∃ g cap uo uc, v = .slice (some ⟨g, 0, none⟩) l.length cap ∧ l.length ≤ cap ∧ ListS B 46 1 (Cr B) x.whn (.slice uo x.whn.length uc) w ∧ w.cell? ⟨g, i * 9, none⟩ = some (.int .i64 (x.kind : Nat)) ∧ w.cell? ⟨g, i * 9 + 1, none⟩ = some (.string ⟨x.name.toArray⟩) ∧
      w.cell? ⟨g, i * 9 + 2, none⟩ = some (.slice uo x.whn.length uc) ∧ w.cell? ⟨g, i * 9 + 3, none⟩ = some (.int .i64 (x.n : Nat)) ∧ w.cell? ⟨g, i * 9 + 4, none⟩ = some (.int .i64 (x.r.1 : Nat)) ∧ w.cell? ⟨g, i * 9 + 5, none⟩ = some (.int .i64 (x.r.2 : Nat)) ∧
      w.cell? ⟨g, i * 9 + 6, none⟩ = some (.int .i64 (x.s.1 : Nat)) ∧ w.cell? ⟨g, i * 9 + 7, none⟩ = some (.int .i64 (x.s.2 : Nat)) ∧ w.cell? ⟨g, i * 9 + 8, none⟩ = some (.int .i64 (x.at_ : Nat)) := by
  obtain ⟨g, cap, cs, h1, h2, h3, h4, ⟨u, rfl, h5⟩, h6, _⟩ := h.get hx
  obtain ⟨uo, uc, rfl⟩ := h5.form
  exact ⟨g, cap, uo, uc, h1, h2, h5, by simpa using h6 0 _ rfl, h6 1 _ rfl, h6 2 _ rfl, h6 3 _ rfl, h6 4 _ rfl, h6 5 _ rfl, h6 6 _ rfl, h6 7 _ rfl, h6 8 _ rfl⟩
set_option maxHeartbeats 1000000 in
set_option maxRecDepth 100000 in
theorem sameitem_spec (w : World) (x y : Rl.Itm) (fl : Bool) (H : Hid (SimI fl x y)) (B B' : Nat) (uo vo : Option Addr) (un vn uc vc : Nat) (HU : Hid (ListS B 46 1 (Cr B) x.whn (.slice uo un uc) w)) (HV : Hid (ListS B' 46 1 (Cr B') y.whn (.slice vo vn vc) w)) :
    Calls Tryd.prog 20 #[.agg #[.int .i64 (x.kind : Nat), .string ⟨x.name.toArray⟩, .slice uo un uc, .int .i64 (x.n : Nat), .int .i64 (x.r.1 : Nat), .int .i64 (x.r.2 : Nat), .int .i64 (x.s.1 : Nat), .int .i64 (x.s.2 : Nat), .int .i64 (x.at_ : Nat)],
      .agg #[.int .i64 (y.kind : Nat), .string ⟨y.name.toArray⟩, .slice vo vn vc, .int .i64 (y.n : Nat), .int .i64 (y.r.1 : Nat), .int .i64 (y.r.2 : Nat), .int .i64 (y.s.1 : Nat), .int .i64 (y.s.2 : Nat), .int .i64 (y.at_ : Nat)], .bool fl] w
      fun e w' => e = .returned (.bool true) ∧ Chg [] w w' := by
  obtain ⟨ao, ac, hu⟩ := HU.out.form
  obtain ⟨bo, bc, hv⟩ := HV.out.form
  simp only [Value.slice.injEq] at hu hv
  obtain ⟨rfl, rfl, rfl⟩ := hu
  obtain ⟨rfl, rfl, rfl⟩ := hv
  obtain ⟨k, nm, wh, n, ⟨r1, r2⟩, ⟨s1, s2⟩, a⟩ := x
  obtain ⟨k', nm', wh', n', ⟨r1', r2'⟩, ⟨s1', s2'⟩, a'⟩ := y
  have h1 := H.out.kind
  have h2 := H.out.name
  have h3 := H.out.n
  have h4 := H.out.r
  have h5 := H.out.s
  simp only at h1 h2 h3
  simp only [Prod.mk.injEq] at h4 h5
  obtain ⟨h41, h42⟩ := h4
  obtain ⟨h51, h52⟩ := h5
  subst h1 h2 h3 h41 h42 h51 h52
  obtain ⟨m, hm⟩ : ∃ m, wh.length = m := ⟨_, rfl⟩
  have hm' : wh'.length = m := H.out.len.symm.trans hm
  rw [hm] at HU
  rw [hm'] at HV
  simp only [hm, hm']
  have HM := Lib.hid hm
  have HM' := Lib.hid hm'
  clear hm hm'
  have hat := H.out.at_
  simp only at hat
  have HAT := Lib.hid hat
  clear hat
  go_enter Tryd.func20, Tryd.ntmps20
  cases fl with
  | true =>
    obtain rfl : a = a' := HAT.out rfl
    go_upto_region 3 with fail
    obtain ⟨W, hW⟩ : ∃ W, W = (w.alloc (.cells #[.int .i64 (k : Nat), .string ⟨nm.toArray⟩, .slice uo m uc, .int .i64 (n : Nat), .int .i64 (r1 : Nat), .int .i64 (r2 : Nat), .int .i64 (s1 : Nat), .int .i64 (s2 : Nat), .int .i64 (a : Nat)] 42)).alloc (.cells #[.int .i64 (k : Nat), .string ⟨nm.toArray⟩, .slice vo m vc, .int .i64 (n : Nat), .int .i64 (r1 : Nat), .int .i64 (r2 : Nat), .int .i64 (s1 : Nat), .int .i64 (s2 : Nat), .int .i64 (a : Nat)] 42) := ⟨_, rfl⟩
    rw [← hW]
    obtain ⟨X2, hX2⟩ : ∃ X2, X2 = w.heap.size + 1 := ⟨_, rfl⟩
    rw [← hX2]
    obtain ⟨X1, hX1⟩ : ∃ X1, X1 = w.heap.size := ⟨_, rfl⟩
    rw [← hX1]
    have HC0 : Hid (Chg [] w W) := Lib.hid (by rw [hW]; exact ((Chg.refl _ _).alloc _).alloc _)
    have HX1 : Hid (Blk W X1 [.int .i64 (k : Nat), .string ⟨nm.toArray⟩, .slice uo m uc, .int .i64 (n : Nat), .int .i64 (r1 : Nat), .int .i64 (r2 : Nat), .int .i64 (s1 : Nat), .int .i64 (s2 : Nat), .int .i64 (a : Nat)] 42) := Lib.hid (by rw [hW, hX1]; exact (Blk.new w _ _).alloc _)
    have HX2 : Hid (Blk W X2 [.int .i64 (k : Nat), .string ⟨nm.toArray⟩, .slice vo m vc, .int .i64 (n : Nat), .int .i64 (r1 : Nat), .int .i64 (r2 : Nat), .int .i64 (s1 : Nat), .int .i64 (s2 : Nat), .int .i64 (a : Nat)] 42) := Lib.hid (by rw [hW, hX2]; have := Blk.new (w.alloc (.cells #[.int .i64 (k : Nat), .string ⟨nm.toArray⟩, .slice uo m uc, .int .i64 (n : Nat), .int .i64 (r1 : Nat), .int .i64 (r2 : Nat), .int .i64 (s1 : Nat), .int .i64 (s2 : Nat), .int .i64 (a : Nat)] 42)) [.int .i64 (k : Nat), .string ⟨nm.toArray⟩, .slice vo m vc, .int .i64 (n : Nat), .int .i64 (r1 : Nat), .int .i64 (r2 : Nat), .int .i64 (s1 : Nat), .int .i64 (s2 : Nat), .int .i64 (a : Nat)] 42; simpa using this)
    clear hW hX1 hX2
    have HUW : Hid (ListS B 46 1 (Cr B) wh (.slice uo m uc) W) := Lib.hid (HU.out.keep (kp_r _) HC0.out (TyB.nil _ _ _))
    have HVW : Hid (ListS B' 46 1 (Cr B') wh' (.slice vo m vc) W) := Lib.hid (HV.out.keep (kp_r _) HC0.out (TyB.nil _ _ _))
    have hml := HUW.out.len_le
    rw [HM.out] at hml
    go_wp2_with fail
    go_loopw [7, 8] (fun i _ wr => ∃ j : Nat, i = .int .i64 (j : Int) ∧ j ≤ m ∧ Hid (Chg [] W wr)) (fun i _ _ => m - (intOf i).toNat)
    case atStart => exact ⟨0, rfl, Nat.zero_le _, Lib.hid (Chg.refl _ _)⟩
    case round =>
      obtain ⟨j, rfl, hj, HCR⟩ := hrel
      have v2 := (HCR.out.blk HX1.out (by simp)).cell (i := 2) rfl
      have w2 := (HCR.out.blk HX2.out (by simp)).cell (i := 2) rfl
      by_cases hlt : j < m
      · obtain ⟨r, hr⟩ : ∃ r, wh[j]? = some r := ⟨wh[j]'(by rw [HM.out]; exact hlt), by simp⟩
        obtain ⟨q, hq⟩ : ∃ q, wh'[j]? = some q := ⟨wh'[j]'(by rw [HM'.out]; exact hlt), by simp⟩
        have HSR := Lib.hid (H.out.whn j r q hr hq)
        obtain ⟨g, cap, go, gc, e1, e2, e3, e4⟩ := whn_get HUW.out hr
        obtain ⟨g', cap', go', gc', f1, f2, f3, f4⟩ := whn_get HVW.out hq
        rw [HM.out] at e1 e2
        rw [HM'.out] at f1 f2
        simp only [Value.slice.injEq, true_and] at e1 f1
        obtain ⟨rfl, rfl⟩ := e1
        obtain ⟨rfl, rfl⟩ := f1
        obtain ⟨d, hd⟩ : ∃ d, r.length = d := ⟨_, rfl⟩
        have hd' : q.length = d := HSR.out.1.symm.trans hd
        rw [hd] at e3 e4
        rw [hd'] at f3 f4
        have hdl := e4.len_le
        rw [hd] at hdl
        have HE4 := Lib.hid e4
        have HF4 := Lib.hid f4
        have HD := Lib.hid hd
        have HD' := Lib.hid hd'
        have HE3 := Lib.hid e3
        have HF3 := Lib.hid f3
        have e3 := cell_quiet HCR.out HE3.out (by simp)
        have f3 := cell_quiet HCR.out HF3.out (by simp)
        have q0 : (0 : Int) ≤ (j : Int) := by omega
        have q1 : (j : Int) < (m : Int) := by omega
        have q2 : (j : Int) ≤ (uc : Int) := by omega
        have q3 : (j : Int) ≤ (vc : Int) := by omega
        have qj : ((j : Int)).toNat = j := by omega
        have qd : ((d : Int) != (d : Int)) = false := by simp
        clear e4 f4 hd hd' hr hq
        go_wp2_with fail
        go_quiet (fail)
        clear v2 w2 e3 f3 qd
        go_wp2_with fail
        go_loopw [8] (fun kk wr2 => ∃ jj : Nat, kk = .int .i64 (jj : Int) ∧ jj ≤ d ∧ Hid (Chg [] W wr2)) (fun kk _ => d - (intOf kk).toNat)
        case atStart => exact ⟨0, rfl, Nat.zero_le _, Lib.hid ⟨HCR.out.os, HCR.out.tape, HCR.out.output, HCR.out.size, HCR.out.block⟩⟩
        case round =>
          obtain ⟨jj, rfl, hjj, HCR2⟩ := hrel
          have v2 := (HCR2.out.blk HX1.out (by simp)).cell (i := 2) rfl
          have w2 := (HCR2.out.blk HX2.out (by simp)).cell (i := 2) rfl
          have e3 := cell_quiet HCR2.out HE3.out (by simp)
          have f3 := cell_quiet HCR2.out HF3.out (by simp)
          by_cases hjl : jj < d
          · obtain ⟨t, ht⟩ : ∃ t, r[jj]? = some t := ⟨r[jj]'(by rw [HD.out]; exact hjl), by simp⟩
            obtain ⟨u, hu⟩ : ∃ u, q[jj]? = some u := ⟨q[jj]'(by rw [HD'.out]; exact hjl), by simp⟩
            have HSS := Lib.hid (HSR.out.2 jj t u ht hu)
            obtain ⟨g2, cap2, a1, a2, a3, a4, a5, a6, a7⟩ := tst_get HE4.out ht
            obtain ⟨g3, cap3, b1, b2, b3, b4, b5, b6, b7⟩ := tst_get HF4.out hu
            rw [HD.out] at a1 a2
            rw [HD'.out] at b1 b2
            simp only [Value.slice.injEq, true_and] at a1 b1
            obtain ⟨rfl, rfl⟩ := a1
            obtain ⟨rfl, rfl⟩ := b1
            have a3 := cell_quiet HCR2.out a3 (by simp)
            have a4 := cell_quiet HCR2.out a4 (by simp)
            have a5 := cell_quiet HCR2.out a5 (by simp)
            have a6 := cell_quiet HCR2.out a6 (by simp)
            have a7 := cell_quiet HCR2.out a7 (by simp)
            have b3 := cell_quiet HCR2.out b3 (by simp)
            have b4 := cell_quiet HCR2.out b4 (by simp)
            have b5 := cell_quiet HCR2.out b5 (by simp)
            have b6 := cell_quiet HCR2.out b6 (by simp)
            have b7 := cell_quiet HCR2.out b7 (by simp)
            have p0 : (0 : Int) ≤ (jj : Int) := by omega
            have p1 : (jj : Int) < (d : Int) := by omega
            have p2 : (jj : Int) ≤ (gc : Int) := by omega
            have p3 : (jj : Int) ≤ (gc' : Int) := by omega
            have pj : ((jj : Int)).toNat = jj := by omega
            clear ht hu
            go_wp2_with fail
            refine wp_region_tail 17 (by kernel_rfl) (by kernel_rfl) (fun L hL => ?_)
            simp only [List.take_succ_cons, List.take_zero, List.drop_succ_cons, List.drop_zero] at hL ⊢
            repeat still_step
            refine wpStill_nil (hL _ ?_)
            clear hL L
            go_wp2_with fail
            refine (sametest_spec _ t u _ HSS).mono ?_
            rintro e9 w9 ⟨rfl, hc9⟩
            have HC9 : Hid (Chg [] W w9) := Lib.hid (HCR2.out.trans (Chg.ofDrew hc9) (by simp))
            clear hc9
            go_wp2_with fail
            refine ⟨?_, by simp [intOf]; omega⟩
            first | exact ⟨jj + 1, vint (by omega), by omega, HC9⟩ | exact ⟨_, _, ⟨jj + 1, vint (by omega), by omega, HC9⟩, rfl⟩ | ((repeat apply Exists.intro); exact ⟨⟨jj + 1, vint (by omega), by omega, HC9⟩, rfl⟩)
          · have p1 : ¬ (jj : Int) < (d : Int) := by omega
            go_wp2_with fail
            refine ⟨?_, by simp [intOf]; omega⟩
            first | exact ⟨j + 1, vint (by omega), by omega, HCR2⟩ | ((repeat apply Exists.intro); exact ⟨⟨j + 1, vint (by omega), by omega, HCR2⟩, rfl⟩)
      · have q1 : ¬ (j : Int) < (m : Int) := by omega
        go_wp2_with fail
        go_ret
        exact ⟨rfl, HC0.out.trans HCR.out (by simp)⟩
  | false =>
    go_upto_region 3 with fail
    obtain ⟨W, hW⟩ : ∃ W, W = (w.alloc (.cells #[.int .i64 (k : Nat), .string ⟨nm.toArray⟩, .slice uo m uc, .int .i64 (n : Nat), .int .i64 (r1 : Nat), .int .i64 (r2 : Nat), .int .i64 (s1 : Nat), .int .i64 (s2 : Nat), .int .i64 (a : Nat)] 42)).alloc (.cells #[.int .i64 (k : Nat), .string ⟨nm.toArray⟩, .slice vo m vc, .int .i64 (n : Nat), .int .i64 (r1 : Nat), .int .i64 (r2 : Nat), .int .i64 (s1 : Nat), .int .i64 (s2 : Nat), .int .i64 (a' : Nat)] 42) := ⟨_, rfl⟩
    rw [← hW]
    obtain ⟨X2, hX2⟩ : ∃ X2, X2 = w.heap.size + 1 := ⟨_, rfl⟩
    rw [← hX2]
    obtain ⟨X1, hX1⟩ : ∃ X1, X1 = w.heap.size := ⟨_, rfl⟩
    rw [← hX1]
    have HC0 : Hid (Chg [] w W) := Lib.hid (by rw [hW]; exact ((Chg.refl _ _).alloc _).alloc _)
    have HX1 : Hid (Blk W X1 [.int .i64 (k : Nat), .string ⟨nm.toArray⟩, .slice uo m uc, .int .i64 (n : Nat), .int .i64 (r1 : Nat), .int .i64 (r2 : Nat), .int .i64 (s1 : Nat), .int .i64 (s2 : Nat), .int .i64 (a : Nat)] 42) := Lib.hid (by rw [hW, hX1]; exact (Blk.new w _ _).alloc _)
    have HX2 : Hid (Blk W X2 [.int .i64 (k : Nat), .string ⟨nm.toArray⟩, .slice vo m vc, .int .i64 (n : Nat), .int .i64 (r1 : Nat), .int .i64 (r2 : Nat), .int .i64 (s1 : Nat), .int .i64 (s2 : Nat), .int .i64 (a' : Nat)] 42) := Lib.hid (by rw [hW, hX2]; have := Blk.new (w.alloc (.cells #[.int .i64 (k : Nat), .string ⟨nm.toArray⟩, .slice uo m uc, .int .i64 (n : Nat), .int .i64 (r1 : Nat), .int .i64 (r2 : Nat), .int .i64 (s1 : Nat), .int .i64 (s2 : Nat), .int .i64 (a : Nat)] 42)) [.int .i64 (k : Nat), .string ⟨nm.toArray⟩, .slice vo m vc, .int .i64 (n : Nat), .int .i64 (r1 : Nat), .int .i64 (r2 : Nat), .int .i64 (s1 : Nat), .int .i64 (s2 : Nat), .int .i64 (a' : Nat)] 42; simpa using this)
    clear hW hX1 hX2
    have HUW : Hid (ListS B 46 1 (Cr B) wh (.slice uo m uc) W) := Lib.hid (HU.out.keep (kp_r _) HC0.out (TyB.nil _ _ _))
    have HVW : Hid (ListS B' 46 1 (Cr B') wh' (.slice vo m vc) W) := Lib.hid (HV.out.keep (kp_r _) HC0.out (TyB.nil _ _ _))
    have hml := HUW.out.len_le
    rw [HM.out] at hml
    go_wp2_with fail
    go_loopw [7, 8] (fun i _ wr => ∃ j : Nat, i = .int .i64 (j : Int) ∧ j ≤ m ∧ Hid (Chg [] W wr)) (fun i _ _ => m - (intOf i).toNat)
    case atStart => exact ⟨0, rfl, Nat.zero_le _, Lib.hid (Chg.refl _ _)⟩
    case round =>
      obtain ⟨j, rfl, hj, HCR⟩ := hrel
      have v2 := (HCR.out.blk HX1.out (by simp)).cell (i := 2) rfl
      have w2 := (HCR.out.blk HX2.out (by simp)).cell (i := 2) rfl
      by_cases hlt : j < m
      · obtain ⟨r, hr⟩ : ∃ r, wh[j]? = some r := ⟨wh[j]'(by rw [HM.out]; exact hlt), by simp⟩
        obtain ⟨q, hq⟩ : ∃ q, wh'[j]? = some q := ⟨wh'[j]'(by rw [HM'.out]; exact hlt), by simp⟩
        have HSR := Lib.hid (H.out.whn j r q hr hq)
        obtain ⟨g, cap, go, gc, e1, e2, e3, e4⟩ := whn_get HUW.out hr
        obtain ⟨g', cap', go', gc', f1, f2, f3, f4⟩ := whn_get HVW.out hq
        rw [HM.out] at e1 e2
        rw [HM'.out] at f1 f2
        simp only [Value.slice.injEq, true_and] at e1 f1
        obtain ⟨rfl, rfl⟩ := e1
        obtain ⟨rfl, rfl⟩ := f1
        obtain ⟨d, hd⟩ : ∃ d, r.length = d := ⟨_, rfl⟩
        have hd' : q.length = d := HSR.out.1.symm.trans hd
        rw [hd] at e3 e4
        rw [hd'] at f3 f4
        have hdl := e4.len_le
        rw [hd] at hdl
        have HE4 := Lib.hid e4
        have HF4 := Lib.hid f4
        have HD := Lib.hid hd
        have HD' := Lib.hid hd'
        have HE3 := Lib.hid e3
        have HF3 := Lib.hid f3
        have e3 := cell_quiet HCR.out HE3.out (by simp)
        have f3 := cell_quiet HCR.out HF3.out (by simp)
        have q0 : (0 : Int) ≤ (j : Int) := by omega
        have q1 : (j : Int) < (m : Int) := by omega
        have q2 : (j : Int) ≤ (uc : Int) := by omega
        have q3 : (j : Int) ≤ (vc : Int) := by omega
        have qj : ((j : Int)).toNat = j := by omega
        have qd : ((d : Int) != (d : Int)) = false := by simp
        clear e4 f4 hd hd' hr hq
        go_wp2_with fail
        go_quiet (fail)
        clear v2 w2 e3 f3 qd
        go_wp2_with fail
        go_loopw [8] (fun kk wr2 => ∃ jj : Nat, kk = .int .i64 (jj : Int) ∧ jj ≤ d ∧ Hid (Chg [] W wr2)) (fun kk _ => d - (intOf kk).toNat)
        case atStart => exact ⟨0, rfl, Nat.zero_le _, Lib.hid ⟨HCR.out.os, HCR.out.tape, HCR.out.output, HCR.out.size, HCR.out.block⟩⟩
        case round =>
          obtain ⟨jj, rfl, hjj, HCR2⟩ := hrel
          have v2 := (HCR2.out.blk HX1.out (by simp)).cell (i := 2) rfl
          have w2 := (HCR2.out.blk HX2.out (by simp)).cell (i := 2) rfl
          have e3 := cell_quiet HCR2.out HE3.out (by simp)
          have f3 := cell_quiet HCR2.out HF3.out (by simp)
          by_cases hjl : jj < d
          · obtain ⟨t, ht⟩ : ∃ t, r[jj]? = some t := ⟨r[jj]'(by rw [HD.out]; exact hjl), by simp⟩
            obtain ⟨u, hu⟩ : ∃ u, q[jj]? = some u := ⟨q[jj]'(by rw [HD'.out]; exact hjl), by simp⟩
            have HSS := Lib.hid (HSR.out.2 jj t u ht hu)
            obtain ⟨g2, cap2, a1, a2, a3, a4, a5, a6, a7⟩ := tst_get HE4.out ht
            obtain ⟨g3, cap3, b1, b2, b3, b4, b5, b6, b7⟩ := tst_get HF4.out hu
            rw [HD.out] at a1 a2
            rw [HD'.out] at b1 b2
            simp only [Value.slice.injEq, true_and] at a1 b1
            obtain ⟨rfl, rfl⟩ := a1
            obtain ⟨rfl, rfl⟩ := b1
            have a3 := cell_quiet HCR2.out a3 (by simp)
            have a4 := cell_quiet HCR2.out a4 (by simp)
            have a5 := cell_quiet HCR2.out a5 (by simp)
            have a6 := cell_quiet HCR2.out a6 (by simp)
            have a7 := cell_quiet HCR2.out a7 (by simp)
            have b3 := cell_quiet HCR2.out b3 (by simp)
            have b4 := cell_quiet HCR2.out b4 (by simp)
            have b5 := cell_quiet HCR2.out b5 (by simp)
            have b6 := cell_quiet HCR2.out b6 (by simp)
            have b7 := cell_quiet HCR2.out b7 (by simp)
            have p0 : (0 : Int) ≤ (jj : Int) := by omega
            have p1 : (jj : Int) < (d : Int) := by omega
            have p2 : (jj : Int) ≤ (gc : Int) := by omega
            have p3 : (jj : Int) ≤ (gc' : Int) := by omega
            have pj : ((jj : Int)).toNat = jj := by omega
            clear ht hu
            go_wp2_with fail
            refine wp_region_tail 17 (by kernel_rfl) (by kernel_rfl) (fun L hL => ?_)
            simp only [List.take_succ_cons, List.take_zero, List.drop_succ_cons, List.drop_zero] at hL ⊢
            repeat still_step
            refine wpStill_nil (hL _ ?_)
            clear hL L
            go_wp2_with fail
            refine (sametest_spec _ t u _ HSS).mono ?_
            rintro e9 w9 ⟨rfl, hc9⟩
            have HC9 : Hid (Chg [] W w9) := Lib.hid (HCR2.out.trans (Chg.ofDrew hc9) (by simp))
            clear hc9
            go_wp2_with fail
            refine ⟨?_, by simp [intOf]; omega⟩
            first | exact ⟨jj + 1, vint (by omega), by omega, HC9⟩ | exact ⟨_, _, ⟨jj + 1, vint (by omega), by omega, HC9⟩, rfl⟩ | ((repeat apply Exists.intro); exact ⟨⟨jj + 1, vint (by omega), by omega, HC9⟩, rfl⟩)
          · have p1 : ¬ (jj : Int) < (d : Int) := by omega
            go_wp2_with fail
            refine ⟨?_, by simp [intOf]; omega⟩
            first | exact ⟨j + 1, vint (by omega), by omega, HCR2⟩ | ((repeat apply Exists.intro); exact ⟨⟨j + 1, vint (by omega), by omega, HCR2⟩, rfl⟩)
      · have q1 : ¬ (j : Int) < (m : Int) := by omega
        go_wp2_with fail
        go_ret
        exact ⟨rfl, HC0.out.trans HCR.out (by simp)⟩
end Go.Proofs.YtmfjebpefneboaaDoor
