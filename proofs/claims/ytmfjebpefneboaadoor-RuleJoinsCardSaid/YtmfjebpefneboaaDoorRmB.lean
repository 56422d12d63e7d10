/-
  Rule: the contract of foyerref07.Moved. Printed by genmoved07.py.
-/
import Derived.Test.YtmfjebpefneboaaDoorRlZ
import Derived.Test.YtmfjebpefneboaaDoorRmA
namespace Go.Proofs.YtmfjebpefneboaaDoor
set_option linter.unusedVariables false
set_option linter.unusedSimpArgs false
open Go Go.RowKit Go.Shelf

/-- An append of one element. -/
theorem wpList_snoc {P : Program} {w : World} {ops : Array Oper} {rest : List Oper} {o : Oper} {a : Act} {Q : Exit → Act → World → Prop} (hgd : o.guard = none) (s x : Operand) (t : TypeId)
    (ho : o.op = .call { callee := .builtin .append, args := #[s, x], argTypes := #[t, t] })
    (e : TypeId) (i : TypeInfo) (z : Value) (size bytes : Nat) (ht : P.underlying t = some (.slice e)) (hi : P.info? e = some i) (hz : i.zero = some z)
    (hsize : i.size = size) (hby : i.bytes = bytes) (hzs : z.cells.size = size) (hsz : 0 < size)
    {α : Type} {C : α → List Value → World → Prop} {B : Nat} {Es : List TypeId} {l : List α} (v : Value) (n : Nat) (hs : a.eval s = v) (HL : ListS B e size C l v w) (hln : l.length = n) (hK : Kp B Es C) (hE : e ∉ Es)
    (el : α) (cs : List Value) (hC : C el cs w) (hlen : cs.length = size) (hone : ∀ u ∈ cs, u.oneCell' = true) (g : Nat) (hx : a.eval x = .slice (some ⟨g, 0, none⟩) 1 1) (hb : Blk w g cs e)
    (h63 : n + 1 ≤ maxLen) (hbytes : (n + 1) * bytes ≤ 140737488355328) (hbase : B ≤ w.heap.size)
    (h : ∀ ao cap w', ListS B e size C (l ++ [el]) (.slice ao (n + 1) cap) w' → (∀ own w0, Chg own w0 w → w0.heap.size ≤ B → Chg own w0 w') → (∀ b ds T, Blk w b ds T → b < B ∨ T ≠ e → Blk w' b ds T) → wpList P ops Q rest (a.put o.dst (.slice ao (n + 1) cap)) w') :
    wpList P ops Q (o :: rest) a w := by
  obtain ⟨css, h1, h2, h3⟩ := HL
  rw [hln] at h3
  refine wpList_append_own w hgd s x t ho B e i z size bytes ht hi hz hsize hby hzs hsz v n css.flatten hs h3 ⟨g, 0, none⟩ 1 1 cs hx (by rw [hlen, Nat.one_mul]) (fun j u hj => by rw [addr_add, Nat.zero_add]; exact hb.cell hj) hone h63 hbytes hbase fun v' w' h4 h5 _ => ?_
  obtain ⟨ao, cap, rfl⟩ := owns_form h4
  refine h ao cap w' (ListS.snoc h1 h2 (by rw [hln]; exact h3) hK hE hlen hC h5 (by rw [hln]; exact h4)) (fun own w0 hc hb' => hc.grown h5 (fun k hk => .inr (Nat.le_trans hb' (own_ge h3 k hk)))) (fun b ds T hbb hor => ?_)
  rcases hor with hor | hor
  · refine (h5.block b hbb.lt (fun e => ?_)).trans hbb
    have := own_ge h3 b e.symm
    omega
  · exact grown_blk hbb h5 h3 hor
theorem take_snoc {α : Type} {l : List α} {j : Nat} {a : α} (h : l[j]? = some a) : l.take (j + 1) = l.take j ++ [a] := by
  rw [List.take_add_one, h]
  rfl
set_option maxHeartbeats 4000000 in
set_option maxRecDepth 100000 in
theorem moved_spec (w : World) (q : List Rl.Itm) (d : Nat) (B : Nat) (bo : Option Addr) (n cp : Nat) (HD : Hid (d ≤ 100000)) (HQ : Hid (ListS B 42 9 (Ci B) q (.slice bo n cp) w)) (HN : Hid (q.length ≤ 200000))
    (HM : Hid (∀ x ∈ q, x.at_ ≤ 4000 ∧ x.whn.length ≤ 100000 ∧ ∀ g ∈ x.whn, g.length ≤ 100000 ∧ ∀ t ∈ g, t.at_ ≤ 4000)) :
    Calls Tryd.prog 15 #[.agg #[.slice bo n cp], .int .i64 (d : Nat)] w fun e w' => ∃ co k c, e = .returned (.agg #[.slice co k c]) ∧ ListS w.heap.size 42 9 (Ci w.heap.size) (q.map (Rl.renI (· + d))) (.slice co k c) w' ∧ Chg [] w w' := by
  have hqn : q.length = n := by
    obtain ⟨ao, ac, hv⟩ := HQ.out.form
    simp only [Value.slice.injEq] at hv
    exact hv.2.1.symm
  rw [hqn] at HN
  have HQN := Lib.hid hqn
  clear hqn
  have hn9 := HN.out
  obtain ⟨ii, hii, iz0, iz1, iz2⟩ := info_parts info_item
  obtain ⟨ir, hir, rz0, rz1, rz2⟩ := info_parts info_sevr
  obtain ⟨it, hit, tz0, tz1, tz2⟩ := info_parts info_sevt
  go_enter Tryd.func15, Tryd.ntmps15
  go_upto_region 2 with fail
  obtain ⟨W, hW⟩ : ∃ W, W = ((w.alloc (.cells #[.slice bo n cp] 25)).alloc (.cells #[.slice none 0 0] 25)).alloc (.cells #[.slice none 0 0] 25) := ⟨_, rfl⟩
  rw [← hW]
  obtain ⟨OUT, hO⟩ : ∃ X, X = w.heap.size + 1 + 1 := ⟨_, rfl⟩
  rw [← hO]
  obtain ⟨RES, hR⟩ : ∃ X, X = w.heap.size + 1 := ⟨_, rfl⟩
  rw [← hR]
  obtain ⟨R, hRR⟩ : ∃ X, X = w.heap.size := ⟨_, rfl⟩
  rw [← hRR]
  have HC0 : Hid (Chg [] w W) := Lib.hid (by rw [hW]; exact (((Chg.refl _ _).alloc _).alloc _).alloc _)
  have HBR : Hid (Blk W R [.slice bo n cp] 25) := Lib.hid (by rw [hW, hRR]; exact ((Blk.new w [.slice bo n cp] _).alloc _).alloc _)
  have HBE : Hid (Blk W RES [.slice none 0 0] 25) := Lib.hid (by rw [hW, hR]; have := (Blk.new (w.alloc (.cells #[.slice bo n cp] 25)) [.slice none 0 0] 25).alloc (.cells #[.slice none 0 0] 25); simpa using this)
  have HBO : Hid (Blk W OUT [.slice none 0 0] 25) := Lib.hid (by rw [hW, hO]; have := Blk.new ((w.alloc (.cells #[.slice bo n cp] 25)).alloc (.cells #[.slice none 0 0] 25)) [.slice none 0 0] 25; simpa using this)
  have HNE : Hid (R < RES ∧ RES < OUT ∧ w.heap.size ≤ R ∧ OUT < W.heap.size) := Lib.hid ⟨by omega, by omega, by omega, HBO.out.lt⟩
  clear hW hO hR hRR
  obtain ⟨fq, hfq⟩ : ∃ f, f = q.map (Rl.renI (· + d)) := ⟨_, rfl⟩
  have HFQ := Lib.hid hfq
  have HFQN : Hid (fq.length = n) := Lib.hid (by rw [hfq, List.length_map]; exact HQN.out)
  clear hfq
  go_wp2_with fail
  go_loopw [6] (fun i wA => ∃ (j : Nat) (oo : Option Addr) (on oc : Nat), i = .int .i64 (j : Int) ∧ j ≤ n ∧ Hid (Blk wA OUT [.slice oo on oc] 25) ∧ Hid (ListS W.heap.size 42 9 (Ci W.heap.size) (fq.take j) (.slice oo on oc) wA) ∧ Hid (Chg [OUT] W wA)) (fun i _ => n - (intOf i).toNat)
  case atStart => exact ⟨0, none, 0, 0, rfl, Nat.zero_le _, HBO, Lib.hid (ListS.nil _ _ _ _ _), Lib.hid (Chg.refl _ _)⟩
  case round =>
    obtain ⟨j, oo, on, oc, rfl, hj, HO, HL, HC⟩ := hrel
    obtain ⟨wA, hwn⟩ : ∃ x, x = wr := ⟨_, rfl⟩
    subst hwn
    have HCw : Hid (Chg [] w wA) := Lib.hid (HC0.out.trans HC.out (fun k hk => .inr (by simp only [List.mem_cons, List.not_mem_nil, or_false] at hk; subst hk; have := HNE.out; omega)))
    have HRr : Hid (Blk wA R [.slice bo n cp] 25) := Lib.hid (HC.out.blk HBR.out (by have := HNE.out; simp; omega))
    have HEr : Hid (Blk wA RES [.slice none 0 0] 25) := Lib.hid (HC.out.blk HBE.out (by have := HNE.out; simp; omega))
    have d0 := HRr.out.cell (i := 0) rfl
    by_cases hlt : j < n
    · obtain ⟨x, hx⟩ : ∃ x, q[j]? = some x := ⟨q[j]'(by rw [HQN.out]; exact hlt), by simp⟩
      obtain ⟨g, cap, uo, uc, f1, f2, f3, a0, a1, a2, a3, a4, a5, a6, a7, a8⟩ := itm_get HQ.out hx
      rw [HQN.out] at f1 f2
      simp only [Value.slice.injEq, true_and] at f1
      obtain ⟨rfl, rfl⟩ := f1
      obtain ⟨un, hun⟩ : ∃ u, x.whn.length = u := ⟨_, rfl⟩
      rw [hun] at f3 a2
      have HU := Lib.hid f3
      have HUN := Lib.hid hun
      have HX := Lib.hid hx
      have HMX := Lib.hid (HM.out x (List.mem_of_getElem? hx))
      clear f3 hx
      have hunl : un ≤ 100000 := by have := HMX.out.2.1; rw [HUN.out] at this; exact this
      clear hun
      obtain ⟨x', hx'⟩ : ∃ x', x' = Rl.renI (· + d) x := ⟨_, rfl⟩
      have HFX : Hid (fq[j]? = some x') := Lib.hid (by rw [HFQ.out, List.getElem?_map, HX.out, hx']; rfl)
      obtain ⟨fw, hfw⟩ : ∃ f, f = x.whn.map (·.map (Rl.renS (· + d))) := ⟨_, rfl⟩
      have HFW := Lib.hid hfw
      have HX' := Lib.hid hx'
      have HFWN : Hid (fw.length = un) := Lib.hid (by rw [hfw, List.length_map]; exact HUN.out)
      clear hfw hx'
      have a0 := cell_quiet HCw.out a0 (by simp)
      have a1 := cell_quiet HCw.out a1 (by simp)
      have a2 := cell_quiet HCw.out a2 (by simp)
      have a3 := cell_quiet HCw.out a3 (by simp)
      have a4 := cell_quiet HCw.out a4 (by simp)
      have a5 := cell_quiet HCw.out a5 (by simp)
      have a6 := cell_quiet HCw.out a6 (by simp)
      have a7 := cell_quiet HCw.out a7 (by simp)
      have a8 := cell_quiet HCw.out a8 (by simp)
      have q0 : (0 : Int) ≤ (j : Int) := by omega
      have q1 : (j : Int) < (n : Int) := by omega
      have qj : ((j : Int)).toNat = j := by omega
      obtain ⟨xa, hxa⟩ : ∃ xa, xa = x.at_ + d := ⟨_, rfl⟩
      have q2 : IntKind.i64.wrap ((x.at_ : Int) + (d : Int)) = (xa : Int) := by
        have := HMX.out.1
        have := HD.out
        rw [IntWalk.i64_in _ (by omega), hxa]
        omega
      have HXA := Lib.hid hxa
      clear hxa
      have qe : (wA.alloc (.cells #[.int .i64 (x.kind : Nat), .string ⟨x.name.toArray⟩, .slice uo un uc, .int .i64 (x.n : Nat), .int .i64 (x.r.1 : Nat), .int .i64 (x.r.2 : Nat), .int .i64 (x.s.1 : Nat), .int .i64 (x.s.2 : Nat), .int .i64 (x.at_ : Nat)] 42)).cell? ⟨wA.heap.size, 8, none⟩ = some (.int .i64 (x.at_ : Nat)) := (Blk.new wA [.int .i64 (x.kind : Nat), .string ⟨x.name.toArray⟩, .slice uo un uc, .int .i64 (x.n : Nat), .int .i64 (x.r.1 : Nat), .int .i64 (x.r.2 : Nat), .int .i64 (x.s.1 : Nat), .int .i64 (x.s.2 : Nat), .int .i64 (x.at_ : Nat)] 42).cell rfl
      have qf := (Blk.new wA [.int .i64 (x.kind : Nat), .string ⟨x.name.toArray⟩, .slice uo un uc, .int .i64 (x.n : Nat), .int .i64 (x.r.1 : Nat), .int .i64 (x.r.2 : Nat), .int .i64 (x.s.1 : Nat), .int .i64 (x.s.2 : Nat), .int .i64 (x.at_ : Nat)] 42).free 8
      go_upto_region 7 with fail
      clear a0 a1 a2 a3 a4 a5 a6 a7 a8 q2 qe qf
      obtain ⟨WX, hWX⟩ : ∃ X, X = wA.alloc (.cells #[.int .i64 (x.kind : Nat), .string ⟨x.name.toArray⟩, .slice uo un uc, .int .i64 (x.n : Nat), .int .i64 (x.r.1 : Nat), .int .i64 (x.r.2 : Nat), .int .i64 (x.s.1 : Nat), .int .i64 (x.s.2 : Nat), .int .i64 (xa : Nat)] 42) := ⟨_, rfl⟩
      rw [← hWX]
      obtain ⟨X, hX⟩ : ∃ X, X = wA.heap.size := ⟨_, rfl⟩
      rw [← hX]
      have HBX : Hid (Blk WX X [.int .i64 (x.kind : Nat), .string ⟨x.name.toArray⟩, .slice uo un uc, .int .i64 (x.n : Nat), .int .i64 (x.r.1 : Nat), .int .i64 (x.r.2 : Nat), .int .i64 (x.s.1 : Nat), .int .i64 (x.s.2 : Nat), .int .i64 (xa : Nat)] 42) := Lib.hid (by rw [hWX, hX]; exact Blk.new wA [.int .i64 (x.kind : Nat), .string ⟨x.name.toArray⟩, .slice uo un uc, .int .i64 (x.n : Nat), .int .i64 (x.r.1 : Nat), .int .i64 (x.r.2 : Nat), .int .i64 (x.s.1 : Nat), .int .i64 (x.s.2 : Nat), .int .i64 (xa : Nat)] 42)
      have HCX : Hid (Chg [] wA WX) := Lib.hid (by rw [hWX]; exact (Chg.refl _ _).alloc _)
      have HXX : Hid (wA.heap.size ≤ X ∧ X < WX.heap.size) := Lib.hid ⟨by omega, HBX.out.lt⟩
      clear hWX hX d0
      go_wp2_with fail
      go_loopw [8, 9] (fun acc kk wr2 => ∃ (k : Nat) (ao : Option Addr) (ac : Nat), acc = .slice ao k ac ∧ kk = .int .i64 (k : Int) ∧ k ≤ un ∧ Hid (ListS WX.heap.size 46 1 (Cr WX.heap.size) (fw.take k) (.slice ao k ac) wr2) ∧ Hid (Chg [] WX wr2)) (fun _ kk _ => un - (intOf kk).toNat)
      case atStart => exact ⟨0, none, 0, rfl, rfl, Nat.zero_le _, Lib.hid (ListS.nil _ _ _ _ _), Lib.hid (Chg.refl _ _)⟩
      case round =>
        obtain ⟨k, ao, ac, rfl, rfl, hk, HL2, HC2⟩ := hrel
        obtain ⟨wr2, hwn⟩ : ∃ x, x = wr := ⟨_, rfl⟩
        subst hwn
        have HCw2 : Hid (Chg [] w wr2) := Lib.hid ((HCw.out.trans HCX.out (by simp)).trans HC2.out (by simp))
        have HX2 : Hid (Blk wr2 X [.int .i64 (x.kind : Nat), .string ⟨x.name.toArray⟩, .slice uo un uc, .int .i64 (x.n : Nat), .int .i64 (x.r.1 : Nat), .int .i64 (x.r.2 : Nat), .int .i64 (x.s.1 : Nat), .int .i64 (x.s.2 : Nat), .int .i64 (xa : Nat)] 42) := Lib.hid (HC2.out.blk HBX.out (by simp))
        have v2 := HX2.out.cell (i := 2) rfl
        by_cases hlk : k < un
        · obtain ⟨r, hr⟩ : ∃ r, x.whn[k]? = some r := ⟨x.whn[k]'(by rw [HUN.out]; exact hlk), by simp⟩
          obtain ⟨g2, cap2, go, gc, e1, e2, e3, e4⟩ := whn_get HU.out hr
          rw [HUN.out] at e1 e2
          simp only [Value.slice.injEq, true_and] at e1
          obtain ⟨rfl, rfl⟩ := e1
          obtain ⟨rn, hrn⟩ : ∃ u, r.length = u := ⟨_, rfl⟩
          rw [hrn] at e3 e4
          have HE3 := Lib.hid e3
          have HE4 := Lib.hid e4
          have HRN := Lib.hid hrn
          have HR := Lib.hid hr
          have HMR := Lib.hid (HMX.out.2.2 r (List.mem_of_getElem? hr))
          have hrl : rn ≤ 100000 := by have := HMR.out.1; rw [HRN.out] at this; exact this
          clear e3 e4 hrn hr
          obtain ⟨fr, hfr⟩ : ∃ f, f = r.map (Rl.renS (· + d)) := ⟨_, rfl⟩
          have HFR := Lib.hid hfr
          have HFRW : Hid (fw[k]? = some fr) := Lib.hid (by rw [HFW.out, List.getElem?_map, HR.out, hfr]; rfl)
          have HFRN : Hid (fr.length = rn) := Lib.hid (by rw [hfr, List.length_map]; exact HRN.out)
          clear hfr
          have p0 : (0 : Int) ≤ (k : Int) := by omega
          have p1 : (k : Int) < (un : Int) := by omega
          have pk : ((k : Int)).toNat = k := by omega
          go_wp2_with fail
          clear v2
          go_loopw [10, 11] (fun acc mm wr3 => ∃ (m : Nat) (lo : Option Addr) (lc : Nat), acc = .slice lo m lc ∧ mm = .int .i64 (m : Int) ∧ m ≤ rn ∧ Hid (ListS wr2.heap.size 48 5 Ct (fr.take m) (.slice lo m lc) wr3) ∧ Hid (Chg [] wr2 wr3)) (fun _ mm _ => rn - (intOf mm).toNat)
          case atStart => exact ⟨0, none, 0, rfl, rfl, Nat.zero_le _, Lib.hid (ListS.nil _ _ _ _ _), Lib.hid (Chg.refl _ _)⟩
          case round =>
            obtain ⟨m, lo, lc, rfl, rfl, hm, HL3, HC3⟩ := hrel
            obtain ⟨wr3, hwn⟩ : ∃ x, x = wr := ⟨_, rfl⟩
            subst hwn
            have HCw3 : Hid (Chg [] w wr3) := Lib.hid (HCw2.out.trans HC3.out (by simp))
            have v3 := (HC3.out.blk HX2.out (by simp)).cell (i := 2) rfl
            have e3 := cell_quiet HCw3.out HE3.out (by simp)
            by_cases hlm : m < rn
            · obtain ⟨t, ht⟩ : ∃ t, r[m]? = some t := ⟨r[m]'(by rw [HRN.out]; exact hlm), by simp⟩
              obtain ⟨g3, cap3, b1, b2, b3, b4, b5, b6, b7⟩ := tst_get HE4.out ht
              rw [HRN.out] at b1 b2
              simp only [Value.slice.injEq, true_and] at b1
              obtain ⟨rfl, rfl⟩ := b1
              have b3 := cell_quiet HCw3.out b3 (by simp)
              have b4 := cell_quiet HCw3.out b4 (by simp)
              have b5 := cell_quiet HCw3.out b5 (by simp)
              have b6 := cell_quiet HCw3.out b6 (by simp)
              have b7 := cell_quiet HCw3.out b7 (by simp)
              have HT := Lib.hid ht
              have hta4 := HMR.out.2 t (List.mem_of_getElem? ht)
              clear ht
              obtain ⟨t', ht'⟩ : ∃ t', t' = Rl.renS (· + d) t := ⟨_, rfl⟩
              have HFT : Hid (fr[m]? = some t') := Lib.hid (by rw [HFR.out, List.getElem?_map, HT.out, ht']; rfl)
              have HT' := Lib.hid ht'
              clear ht'
              have r0 : (0 : Int) ≤ (m : Int) := by omega
              have r1 : (m : Int) < (rn : Int) := by omega
              have rm : ((m : Int)).toNat = m := by omega
              obtain ⟨ta, hta⟩ : ∃ ta, ta = t.at_ + d := ⟨_, rfl⟩
              have r2 : IntKind.i64.wrap ((t.at_ : Int) + (d : Int)) = (ta : Int) := by
                have := HD.out
                rw [IntWalk.i64_in _ (by omega), hta]
                omega
              have HTA := Lib.hid hta
              clear hta hta4
              have qe : (wr3.alloc (.cells #[.string ⟨t.attr.toArray⟩, .int .i64 (t.op : Nat), .string ⟨t.name.toArray⟩, .int .i64 (t.n : Nat), .int .i64 (t.at_ : Nat)] 48)).cell? ⟨wr3.heap.size, 4, none⟩ = some (.int .i64 (t.at_ : Nat)) := (Blk.new wr3 [.string ⟨t.attr.toArray⟩, .int .i64 (t.op : Nat), .string ⟨t.name.toArray⟩, .int .i64 (t.n : Nat), .int .i64 (t.at_ : Nat)] 48).cell rfl
              have qf := (Blk.new wr3 [.string ⟨t.attr.toArray⟩, .int .i64 (t.op : Nat), .string ⟨t.name.toArray⟩, .int .i64 (t.n : Nat), .int .i64 (t.at_ : Nat)] 48).free 4
              go_upto_region 17 with fail
              clear b3 b4 b5 b6 b7 r2 qe qf e3 v3
              obtain ⟨WT, hWT⟩ : ∃ X, X = wr3.alloc (.cells #[.string ⟨t.attr.toArray⟩, .int .i64 (t.op : Nat), .string ⟨t.name.toArray⟩, .int .i64 (t.n : Nat), .int .i64 (ta : Nat)] 48) := ⟨_, rfl⟩
              rw [← hWT]
              obtain ⟨T, hT⟩ : ∃ X, X = wr3.heap.size := ⟨_, rfl⟩
              rw [← hT]
              have HBT : Hid (Blk WT T [.string ⟨t.attr.toArray⟩, .int .i64 (t.op : Nat), .string ⟨t.name.toArray⟩, .int .i64 (t.n : Nat), .int .i64 (ta : Nat)] 48) := Lib.hid (by rw [hWT, hT]; exact Blk.new wr3 [.string ⟨t.attr.toArray⟩, .int .i64 (t.op : Nat), .string ⟨t.name.toArray⟩, .int .i64 (t.n : Nat), .int .i64 (ta : Nat)] 48)
              have HCT : Hid (Chg [] wr3 WT) := Lib.hid (by rw [hWT]; exact (Chg.refl _ _).alloc _)
              clear hWT hT
              have c0 := HBT.out.cell (i := 0) rfl
              have c1 := HBT.out.cell (i := 1) rfl
              have c2 := HBT.out.cell (i := 2) rfl
              have c3 := HBT.out.cell (i := 3) rfl
              have c4 := HBT.out.cell (i := 4) rfl
              have s0 := fun o : Obj => (HBT.out.alloc o).cell (i := 0) rfl
              have hcb : Hid (Chg [] wr2 (WT.alloc (.cells #[.string ⟨t.attr.toArray⟩, .int .i64 (t.op : Nat), .string ⟨t.name.toArray⟩, .int .i64 (t.n : Nat), .int .i64 (ta : Nat)] 48))) := Lib.hid ((HC3.out.trans HCT.out (by simp)).alloc _)
              have HL4 : Hid (ListS wr2.heap.size 48 5 Ct (fr.take m) (.slice lo m lc) (WT.alloc (.cells #[.string ⟨t.attr.toArray⟩, .int .i64 (t.op : Nat), .string ⟨t.name.toArray⟩, .int .i64 (t.n : Nat), .int .i64 (ta : Nat)] 48))) := Lib.hid (HL3.out.keep (kp_t _) (HCT.out.alloc _) (TyB.nil _ _ _))
              have hlm : (fr.take m).length = m := by rw [List.length_take, HFRN.out]; omega
              clear s0
              go_wp2_with (at_builtin; refine wpList_snoc rfl (.tmp 60) (.tmp 62) 46 rfl 48 it (.agg #[.string ⟨#[]⟩, .int .i64 0, .string ⟨#[]⟩, .int .i64 0, .int .i64 0]) 5 56 Tryd.underlying46 hit tz0 tz1 tz2 rfl (by decide) (C := Ct) (Es := []) (.slice lo m lc) m rfl HL4.out hlm (kp_t _) (by simp) t' [.string ⟨t.attr.toArray⟩, .int .i64 (t.op : Nat), .string ⟨t.name.toArray⟩, .int .i64 (t.n : Nat), .int .i64 (ta : Nat)] (by show _ = _; rw [HT'.out, HTA.out]; rfl) rfl (by intro u hu; simp at hu; rcases hu with rfl | rfl | rfl | rfl | rfl <;> rfl) WT.heap.size rfl (Blk.new WT [.string ⟨t.attr.toArray⟩, .int .i64 (t.op : Nat), .string ⟨t.name.toArray⟩, .int .i64 (t.n : Nat), .int .i64 (ta : Nat)] 48) (by unfold maxLen; omega) (by omega) hcb.out.size ?kk)
              case kk =>
                intro lo9 lc9 w9 hl9 hc9 hb9
                rw [← take_snoc HFT.out] at hl9
                have HL9 := Lib.hid hl9
                have HC9 : Hid (Chg [] wr2 w9) := Lib.hid (hc9 _ _ hcb.out (Nat.le_refl _))
                clear hl9 hc9 hb9 hcb c0 c1 c2 c3 c4
                go_wp2_with fail
                refine ⟨?_, by simp [intOf]; omega⟩
                first | exact ⟨m + 1, lo9, lc9, rfl, vint (by omega), by omega, HL9, HC9⟩ | ((repeat apply Exists.intro); exact ⟨⟨m + 1, lo9, lc9, rfl, vint (by omega), by omega, HL9, HC9⟩, rfl⟩)
            · have r1 : ¬ (m : Int) < (rn : Int) := by omega
              obtain rfl : m = rn := by omega
              have HL3' : Hid (ListS wr2.heap.size 48 5 Ct fr (.slice lo m lc) wr3) := Lib.hid (by have := HL3.out; rw [List.take_of_length_le (Nat.le_of_eq HFRN.out)] at this; exact this)
              have hcb : Hid (Chg [] WX (wr3.alloc (.cells #[.slice lo m lc] 46))) := Lib.hid ((HC2.out.trans HC3.out (by simp)).alloc _)
              have HCR : Hid (ListS WX.heap.size 48 5 Ct fr (.slice lo m lc) (wr3.alloc (.cells #[.slice lo m lc] 46))) := Lib.hid ((HL3'.out.mono HC2.out.size (mono_t HC2.out.size)).keep (kp_t _) ((Chg.refl [] _).alloc _) (TyB.nil _ _ _))
              have HL4 : Hid (ListS WX.heap.size 46 1 (Cr WX.heap.size) (fw.take k) (.slice ao k ac) (wr3.alloc (.cells #[.slice lo m lc] 46))) := Lib.hid (HL2.out.keep (kp_r _) (HC3.out.alloc _) (TyB.nil _ _ _))
              have hlk2 : (fw.take k).length = k := by rw [List.length_take, HFWN.out]; omega
              go_upto_region 18 with fail
              clear e3 v3
              go_wp2_with (at_builtin; refine wpList_snoc rfl (.tmp 64) (.tmp 66) 38 rfl 46 ir (.slice none 0 0) 1 24 Tryd.underlying38 hir rz0 rz1 rz2 rfl (by decide) (C := Cr WX.heap.size) (Es := [48]) (.slice ao k ac) k rfl HL4.out hlk2 (kp_r _) (by decide) fr [.slice lo m lc] ⟨_, rfl, HCR.out⟩ rfl (by intro u hu; simp at hu; subst hu; rfl) wr3.heap.size rfl (Blk.new wr3 [.slice lo m lc] 46) (by unfold maxLen; omega) (by omega) hcb.out.size ?kk)
              case kk =>
                intro lo9 lc9 w9 hl9 hc9 hb9
                rw [← take_snoc HFRW.out] at hl9
                have HL9 := Lib.hid hl9
                have HC9 : Hid (Chg [] WX w9) := Lib.hid (hc9 _ _ hcb.out (Nat.le_refl _))
                clear hl9 hc9 hb9 hcb
                go_wp2_with fail
                refine ⟨?_, by simp [intOf]; omega⟩
                first | exact ⟨k + 1, lo9, lc9, rfl, vint (by omega), by omega, HL9, HC9⟩ | ((repeat apply Exists.intro); exact ⟨⟨k + 1, lo9, lc9, rfl, vint (by omega), by omega, HL9, HC9⟩, rfl⟩)
        · have p1 : ¬ (k : Int) < (un : Int) := by omega
          obtain rfl : k = un := by omega
          have HL2' : Hid (ListS WX.heap.size 46 1 (Cr WX.heap.size) fw (.slice ao k ac) wr2) := Lib.hid (by have := HL2.out; rw [List.take_of_length_le (Nat.le_of_eq HFWN.out)] at this; exact this)
          have hf2 := HX2.out.free 2
          have HOx : Hid (Blk wr2 OUT [.slice oo on oc] 25) := Lib.hid (HC2.out.blk (HCX.out.blk HO.out (by simp)) (by simp))
          have HBT : Hid (Blk (wr2.setCell ⟨X, 2, none⟩ (.slice ao k ac)) X [.int .i64 (x.kind : Nat), .string ⟨x.name.toArray⟩, .slice ao k ac, .int .i64 (x.n : Nat), .int .i64 (x.r.1 : Nat), .int .i64 (x.r.2 : Nat), .int .i64 (x.s.1 : Nat), .int .i64 (x.s.2 : Nat), .int .i64 (xa : Nat)] 42) := Lib.hid (HX2.out.set 2 _)
          go_upto_region 20 with fail
          clear v2 hf2
          obtain ⟨WY, hWY⟩ : ∃ Y, Y = wr2.setCell ⟨X, 2, none⟩ (.slice ao k ac) := ⟨_, rfl⟩
          rw [← hWY] at HBT ⊢
          have HCY : Hid (Chg [X] wr2 WY) := Lib.hid (by rw [hWY]; exact (Chg.refl _ _).setCell _ _ (.inl (by simp)))
          have HUY : Hid (ListS W.heap.size 46 1 (Cr W.heap.size) fw (.slice ao k ac) WY) := Lib.hid (by
            have h1 : W.heap.size ≤ WX.heap.size := Nat.le_trans HC.out.size HCX.out.size
            refine (HL2'.out.mono h1 (mono_r h1)).keep (kp_r _) HCY.out (fun b hb => .inr fun ds e fr hh he => ?_)
            simp only [List.mem_cons, List.not_mem_nil, or_false] at hb
            subst hb
            have h2 := HX2.out
            unfold Blk at h2
            rw [h2] at hh
            simp only [Option.some.injEq, Obj.cells.injEq] at hh
            rw [← hh.2.1] at he
            exact absurd he (by decide))
          have HOY : Hid (Blk WY OUT [.slice oo on oc] 25) := Lib.hid (HCY.out.blk HOx.out (by have h1 := HO.out.lt; have h2 := HXX.out.1; simp; omega))
          have HCAY : Hid (Chg [OUT] W WY) := Lib.hid (((HC.out.trans HCX.out (by simp)).trans HC2.out (by simp)).trans HCY.out (fun b hb => .inr (by simp only [List.mem_cons, List.not_mem_nil, or_false] at hb; subst hb; have := HXX.out.1; have := HC.out.size; omega)))
          have HCWY : Hid (Chg [] wA WY) := Lib.hid ((HCX.out.trans HC2.out (by simp)).trans HCY.out (fun b hb => .inr (by simp only [List.mem_cons, List.not_mem_nil, or_false] at hb; subst hb; exact HXX.out.1)))
          have HLY : Hid (ListS W.heap.size 42 9 (Ci W.heap.size) (fq.take j) (.slice oo on oc) WY) := Lib.hid (HL.out.keep (kp_i _) HCWY.out (TyB.nil _ _ _))
          have HNO : Hid (OUT < W.heap.size) := Lib.hid HNE.out.2.2.2
          have hon : on = j := by
            obtain ⟨ho, hc, hv⟩ := HLY.out.form
            simp only [Value.slice.injEq, List.length_take, HFQN.out] at hv
            omega
          subst hon
          have HLZ : Hid (ListS W.heap.size 42 9 (Ci W.heap.size) (fq.take on) (.slice oo on oc) (WY.alloc (.cells #[.int .i64 (x.kind : Nat), .string ⟨x.name.toArray⟩, .slice ao k ac, .int .i64 (x.n : Nat), .int .i64 (x.r.1 : Nat), .int .i64 (x.r.2 : Nat), .int .i64 (x.s.1 : Nat), .int .i64 (x.s.2 : Nat), .int .i64 (xa : Nat)] 42))) := Lib.hid (HLY.out.keep (kp_i _) ((Chg.refl [] _).alloc _) (TyB.nil _ _ _))
          have HUZ : Hid (ListS W.heap.size 46 1 (Cr W.heap.size) fw (.slice ao k ac) (WY.alloc (.cells #[.int .i64 (x.kind : Nat), .string ⟨x.name.toArray⟩, .slice ao k ac, .int .i64 (x.n : Nat), .int .i64 (x.r.1 : Nat), .int .i64 (x.r.2 : Nat), .int .i64 (x.s.1 : Nat), .int .i64 (x.s.2 : Nat), .int .i64 (xa : Nat)] 42))) := Lib.hid (HUY.out.keep (kp_r _) ((Chg.refl [] _).alloc _) (TyB.nil _ _ _))
          have hcz : Hid (Chg [OUT] W (WY.alloc (.cells #[.int .i64 (x.kind : Nat), .string ⟨x.name.toArray⟩, .slice ao k ac, .int .i64 (x.n : Nat), .int .i64 (x.r.1 : Nat), .int .i64 (x.r.2 : Nat), .int .i64 (x.s.1 : Nat), .int .i64 (x.s.2 : Nat), .int .i64 (xa : Nat)] 42))) := Lib.hid (HCAY.out.alloc _)
          have hlq : (fq.take on).length = on := by rw [List.length_take, HFQN.out]; omega
          have o0 := HOY.out.cell (i := 0) rfl
          have x0 := HBT.out.cell (i := 0) rfl
          have x1 := HBT.out.cell (i := 1) rfl
          have x2 := HBT.out.cell (i := 2) rfl
          have x3 := HBT.out.cell (i := 3) rfl
          have x4 := HBT.out.cell (i := 4) rfl
          have x5 := HBT.out.cell (i := 5) rfl
          have x6 := HBT.out.cell (i := 6) rfl
          have x7 := HBT.out.cell (i := 7) rfl
          have x8 := HBT.out.cell (i := 8) rfl
          clear hWY
          go_wp2_with (at_builtin; refine wpList_snoc rfl (.tmp 71) (.tmp 73) 23 rfl 42 ii (.agg #[.int .i64 0, .string ⟨#[]⟩, .slice none 0 0, .int .i64 0, .int .i64 0, .int .i64 0, .int .i64 0, .int .i64 0, .int .i64 0]) 9 96 Tryd.underlying23 hii iz0 iz1 iz2 rfl (by decide) (C := Ci W.heap.size) (Es := [46, 48]) (.slice oo on oc) on rfl HLZ.out hlq (kp_i _) (by decide) x' [.int .i64 (x.kind : Nat), .string ⟨x.name.toArray⟩, .slice ao k ac, .int .i64 (x.n : Nat), .int .i64 (x.r.1 : Nat), .int .i64 (x.r.2 : Nat), .int .i64 (x.s.1 : Nat), .int .i64 (x.s.2 : Nat), .int .i64 (xa : Nat)] ⟨.slice ao k ac, by rw [HX'.out, HXA.out]; rfl, by rw [HX'.out, show (Rl.renI (· + d) x).whn = fw by rw [HFW.out]; rfl]; exact HUZ.out⟩ rfl (by intro u hu; simp at hu; rcases hu with rfl | rfl | rfl | rfl | rfl | rfl | rfl | rfl | rfl <;> rfl) WY.heap.size rfl (Blk.new WY [.int .i64 (x.kind : Nat), .string ⟨x.name.toArray⟩, .slice ao k ac, .int .i64 (x.n : Nat), .int .i64 (x.r.1 : Nat), .int .i64 (x.r.2 : Nat), .int .i64 (x.s.1 : Nat), .int .i64 (x.s.2 : Nat), .int .i64 (xa : Nat)] 42) (by unfold maxLen; omega) (by omega) hcz.out.size ?kk)
          case kk =>
            intro lo9 lc9 w9 hl9 hc9 hb9
            rw [← take_snoc HFX.out] at hl9
            have HL9 := Lib.hid hl9
            have HC9 : Hid (Chg [OUT] W w9) := Lib.hid (hc9 _ _ hcz.out (Nat.le_refl _))
            have HO9 : Hid (Blk w9 OUT [.slice oo on oc] 25) := Lib.hid (hb9 _ _ _ (HOY.out.alloc _) (.inl HNO.out))
            clear hl9 hc9 hb9 hcz o0 x0 x1 x2 x3 x4 x5 x6 x7 x8
            have o0 := HO9.out.cell (i := 0) rfl
            have o1 := HO9.out.free 0
            go_wp2_with fail
            refine ⟨?_, by simp [intOf]; omega⟩
            have HL10 : Hid (ListS W.heap.size 42 9 (Ci W.heap.size) (fq.take (on + 1)) (.slice lo9 (on + 1) lc9) (w9.setCell ⟨OUT, 0, none⟩ (.slice lo9 (on + 1) lc9))) := Lib.hid (HL9.out.keep (kp_i _) ((Chg.refl [OUT] _).setCell _ _ (.inl (by simp))) (TyB.lower (by intro b hb; simp only [List.mem_cons, List.not_mem_nil, or_false] at hb; subst hb; exact HNO.out) _))
            have HC10 : Hid (Chg [OUT] W (w9.setCell ⟨OUT, 0, none⟩ (.slice lo9 (on + 1) lc9))) := Lib.hid (HC9.out.setCell _ _ (.inl (by simp)))
            have HO10 : Hid (Blk (w9.setCell ⟨OUT, 0, none⟩ (.slice lo9 (on + 1) lc9)) OUT [.slice lo9 (on + 1) lc9] 25) := Lib.hid (HO9.out.set 0 _)
            first | exact ⟨on + 1, lo9, _, lc9, vint (by omega), by omega, HO10, HL10, HC10⟩ | ((repeat apply Exists.intro); exact ⟨⟨on + 1, lo9, _, lc9, vint (by omega), by omega, HO10, HL10, HC10⟩, rfl⟩)
    · have q1 : ¬ (j : Int) < (n : Int) := by omega
      obtain rfl : j = n := by omega
      have o0 := HO.out.cell (i := 0) rfl
      have ef := HEr.out.free 0
      have e0 := HEr.out.cell (i := 0) rfl
      have o1 := (HEr.out.set 0 (.slice oo on oc)).cell (i := 0) rfl
      go_wp2_with fail
      (try simp only [Exit.inBlock, Exit.then])
      refine bodyPost_ret (results_cell_row rfl _ _ RES 25 #[.slice oo on oc] (0, 0) _ rfl (HEr.out.set 0 (.slice oo on oc)) Tryd.underlying25 rfl (by kernel_rfl)) rfl ?_
      refine ⟨oo, on, oc, rfl, ?_, HCw.out.setCell _ _ (.inr (by have := HNE.out; show _ ≤ RES; omega))⟩
      have h1 := HL.out
      rw [List.take_of_length_le (Nat.le_of_eq HFQN.out), HFQ.out] at h1
      refine (h1.mono HC0.out.size (mono_i HC0.out.size)).keep (kp_i _) ((Chg.refl [RES] _).setCell _ _ (.inl (by simp))) (fun b hb => .inr fun ds e fr hh he => ?_)
      simp only [List.mem_cons, List.not_mem_nil, or_false] at hb
      subst hb
      have h2 := HEr.out
      unfold Blk at h2
      rw [h2] at hh
      simp only [Option.some.injEq, Obj.cells.injEq] at hh
      rw [← hh.2.1] at he
      exact absurd he (by decide)
end Go.Proofs.YtmfjebpefneboaaDoor
