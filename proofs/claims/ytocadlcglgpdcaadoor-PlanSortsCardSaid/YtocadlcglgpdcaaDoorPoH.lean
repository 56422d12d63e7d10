/-
  Plan: the plain law of PlanLevels.
-/
import Derived.Test.YtocadlcglgpdcaaDoorPoG
namespace Go.Proofs.YtocadlcglgpdcaaDoor
set_option linter.unusedVariables false
open Lx (Tk)
namespace Lx
theorem sc_off0 (o : Nat) (s : Bytes) : sc o s = (sc 0 s).map (shift o) := by
  have := sc_shift o 0 s
  rwa [Nat.zero_add] at this
theorem good_off (o : Nat) (s : Bytes) : good (sc o s) = good (sc 0 s) := by rw [sc_off0, good_shift]
theorem map_split {l : List (Tk × Nat)} (hg : good l = true) {p q : List Tk} {u : Tk} (h : l.map Prod.fst = p ++ u :: q) : ∃ p' q', l = p' ++ (u, 0) :: q' ∧ p'.map Prod.fst = p ∧ q'.map Prod.fst = q := by
  obtain ⟨a, b, hab, ha, hb⟩ := List.map_eq_append_iff.1 h
  cases b with
  | nil => simp at hb
  | cons x b =>
    rw [List.map_cons, List.cons.injEq] at hb
    have hx : x.2 = 0 := (good_iff.1 hg) x (by rw [hab]; simp)
    exact ⟨a, b, by rw [hab]; congr 1; rw [← hb.1, ← hx], ha, hb.2⟩
/-- What stands between two tokens. -/
theorem tok_mid {s : Bytes} (h0 : (lex s).2.1 = 0) {p b q : List Tk} {u v : Tk} (h : (lex s).1 = p ++ u :: (b ++ v :: q)) :
    u.at_ + u.text.length ≤ v.at_ ∧ v.at_ ≤ s.length ∧ good (sc 0 ((s.drop (u.at_ + u.text.length)).take (v.at_ - (u.at_ + u.text.length)))) = true ∧
      (sc (u.at_ + u.text.length) ((s.drop (u.at_ + u.text.length)).take (v.at_ - (u.at_ + u.text.length)))).map Prod.fst = b := by
  obtain ⟨c1, c2, -⟩ := tok_cuts h0 (p := p ++ u :: b) (u := v) (q := q) (by rw [h]; simp)
  have h1 : (lex (s.take v.at_)).2.1 = 0 := by rw [c2]
  obtain ⟨l1, g1, g2, e1⟩ := lex_of_zero h1
  have h2 : (sc 0 (s.take v.at_)).map Prod.fst = p ++ u :: b := by rw [c2] at e1; exact (congrArg Prod.fst e1).symm
  obtain ⟨p', b', hp, hp1, hb1⟩ := map_split g1 h2
  obtain ⟨i, a1, a2, -, a4⟩ := sc_swap 0 (s.take v.at_) p' u 0 b' hp (good_iff.2 fun x hx => good_iff.1 g1 x (by rw [hp]; simp [hx]))
  obtain ⟨j, hj, k1, -, -, -, k5⟩ := sc_first _ _ _ _ a4
  have hxe : u = mk (0 + i + j) (((s.take v.at_).drop i).drop j) := congrArg Prod.fst k1
  have hat : u.at_ = 0 + i + j := by rw [hxe]; rfl
  have hj0 : j = 0 := by omega
  subst hj0
  rw [List.drop_zero] at hxe k1
  have k6 := k5 rfl
  obtain ⟨c, r, hcr⟩ : ∃ c r, (s.take v.at_).drop i = c :: r := by
    cases hd : (s.take v.at_).drop i with
    | nil => rw [List.drop_eq_nil_iff] at hd; omega
    | cons c r => exact ⟨c, r, rfl⟩
  have htx : u.text = ((s.take v.at_).drop i).take (tok ((s.take v.at_).drop i)).2.1 := by rw [hxe]; rfl
  have hle := tok_len c r
  rw [← hcr] at hle
  have hlen : ((s.take v.at_).drop i).length = r.length + 1 := by rw [hcr]; simp
  have hll : u.text.length = (tok ((s.take v.at_).drop i)).2.1 := by rw [htx, List.length_take]; omega
  have hui : u.at_ = i := by omega
  have k7 : sc (i + u.text.length) ((s.take v.at_).drop (i + u.text.length)) = b' := by
    rw [hll]
    simpa [List.drop_drop] using k6
  rw [← hui, List.drop_take] at k7
  clear k6 k5
  have hlt : u.at_ + u.text.length ≤ v.at_ := by
    rw [List.length_drop, List.length_take] at hlen
    rw [hll]
    omega
  refine ⟨hlt, by omega, ?_, by rw [k7]; exact hb1⟩
  rw [← good_off (u.at_ + u.text.length), k7]
  exact good_iff.2 fun x hx => good_iff.1 g1 x (by rw [hp]; simp [hx])
theorem sc_brace (k : Nat) : sc k [125] = [(⟨3, [125], 0, k⟩, 0)] := by
  rw [sc_off0]
  have : sc 0 [125] = [(⟨3, [125], 0, 0⟩, 0)] := by decide +kernel
  rw [this]
  simp [shift]
end Lx
namespace Pn
open Lx (shift sc good)
theorem levels_law {s o : Bytes} (hs : s.length ≤ 4000) (ho : o.length ≤ 4000) (h1 : (parse s).2.1 = 0) (h2 : (parse o).2.1 = 0) (hn : (Lx.lex s).1.length + (Lx.lex o).1.length ≤ 4000) :
    (Lx.lex s).2.1 = 0 ∧ (Lx.lex o).2.1 = 0 ∧ 7 ≤ (Lx.lex s).1.length ∧ 7 ≤ (Lx.lex o).1.length ∧
    ∃ u ob cl, (Lx.lex s).1[(Lx.lex s).1.length - 1]? = some u ∧ (Lx.lex o).1[5]? = some ob ∧ (Lx.lex o).1[(Lx.lex o).1.length - 1]? = some cl ∧ ob.at_ + 1 ≤ cl.at_ ∧ cl.at_ ≤ o.length ∧ u.at_ ≤ s.length ∧
      ∃ L, (parse (s.take u.at_ ++ 10 :: ((o.drop (ob.at_ + 1)).take (cl.at_ - (ob.at_ + 1)) ++ [10, 125]))).2.1 = 0 ∧
        (parse (s.take u.at_ ++ 10 :: ((o.drop (ob.at_ + 1)).take (cl.at_ - (ob.at_ + 1)) ++ [10, 125]))).1 = ⟨(parse s).1.name, (parse s).1.sx, (parse s).1.sy, (parse s).1.levels ++ L⟩ ∧ SimL (SimV false) L (parse o).1.levels := by
  obtain ⟨l1, r1, p1, -⟩ := parse_zero h1
  obtain ⟨l2, r2, p2, -⟩ := parse_zero h2
  obtain ⟨rfl, hd, cs, u, a1, a2, a3, a4, a5, a6⟩ := hall_split p1
  obtain ⟨rfl, hd', cs', cl, b1, b2, b3, b4, b5, b6⟩ := hall_split p2
  have hlen1 : (Lx.lex s).1.length = 6 + (cs.flatten.length + 1) := by rw [a3, List.length_append, a1]; simp
  have hlen2 : (Lx.lex o).1.length = 6 + (cs'.flatten.length + 1) := by rw [b3, List.length_append, b1]; simp
  refine ⟨l1, l2, by omega, by omega, ?_⟩
  obtain ⟨ob, pre, hpre, hob⟩ : ∃ ob pre, hd' = pre ++ [ob] ∧ ob.text = cOpen := by
    obtain ⟨x, hx, hxt⟩ := Option.map_eq_some_iff.1 b2
    refine ⟨x, hd'.take 5, ?_, hxt⟩
    rw [← take_snoc hx, List.take_of_length_le (by omega)]
  have hpl : pre.length = 5 := by
    have := congrArg List.length hpre
    simp at this
    omega
  have hu : (Lx.lex s).1 = (hd ++ cs.flatten) ++ u :: [] := by rw [a3]; simp
  have hm : (Lx.lex o).1 = pre ++ ob :: (cs'.flatten ++ cl :: []) := by rw [b3, hpre]; simp
  obtain ⟨c1, c2, -⟩ := Lx.tok_cuts l1 hu
  obtain ⟨d1, d2, d3, d4⟩ := Lx.tok_mid l2 hm
  have hob1 : ob.text.length = 1 := by rw [hob]; rfl
  rw [hob1] at d1 d3 d4
  refine ⟨u, ob, cl, ?_, ?_, ?_, d1, d2, by omega, ?_⟩
  · rw [hlen1, hu, List.getElem?_append_right (by rw [List.length_append, a1]; omega), List.length_append, a1]
    simp
  · rw [hm, List.getElem?_append_right (by omega), hpl]
    simp
  · rw [hlen2, b3, List.getElem?_append_right (by omega), b1, List.getElem?_append_right (by omega)]
    simp
  obtain ⟨A, hA⟩ : ∃ A, A = s.take u.at_ := ⟨_, rfl⟩
  obtain ⟨B, hB⟩ : ∃ B, B = (o.drop (ob.at_ + 1)).take (cl.at_ - (ob.at_ + 1)) := ⟨_, rfl⟩
  rw [← hA, ← hB]
  rw [← hA] at c2
  rw [← hB] at d3 d4
  have hAl : A.length ≤ 4000 := by rw [hA, List.length_take]; omega
  have hBl : B.length ≤ 4000 := by rw [hB, List.length_take, List.length_drop]; omega
  -- the tokens of the text
  obtain ⟨g0, g1, g2, e1⟩ := Lx.lex_of_zero (s := A) (by rw [c2])
  have hAt : (sc 0 A).map Prod.fst = hd ++ cs.flatten := by rw [c2] at e1; exact (congrArg Prod.fst e1).symm
  have hf : ∃ f : Nat → Nat, (sc (A.length + 1) B).map Prod.fst = cs'.flatten.map (Rl.renT f) := by
    refine ⟨fun a => a - (ob.at_ + 1) + (A.length + 1), ?_⟩
    rw [← d4, Lx.sc_off0, Lx.sc_off0 (ob.at_ + 1), List.map_map, List.map_map, List.map_map]
    congr 1
    funext x
    simp [shift, Rl.renT]
  obtain ⟨f, hf⟩ := hf
  have hsc : sc 0 (A ++ 10 :: (B ++ [10, 125])) = sc 0 A ++ (sc (A.length + 1) B ++ [(⟨3, [125], 0, A.length + 1 + B.length + 1⟩, 0)]) := by
    rw [Lx.sc_join, if_pos g1, Nat.zero_add, show B ++ [10, 125] = B ++ 10 :: [125] from rfl, Lx.sc_join, if_pos (by rw [Lx.good_off]; exact d3), Lx.sc_brace]
  have hgood : good (sc 0 (A ++ 10 :: (B ++ [10, 125]))) = true := by
    rw [hsc]
    refine Lx.good_iff.2 fun x hx => ?_
    rcases List.mem_append.1 hx with hx | hx
    · exact Lx.good_iff.1 g1 x hx
    rcases List.mem_append.1 hx with hx | hx
    · exact Lx.good_iff.1 (by rw [Lx.good_off]; exact d3) x hx
    · simp at hx
      rw [hx]
  have hlx := Lx.lex_zero' (s := A ++ 10 :: (B ++ [10, 125])) (by simp; omega) hgood (by
    have k1 := congrArg List.length hAt
    have k2 := congrArg List.length hf
    rw [List.length_map, List.length_append] at k1
    rw [List.length_map, List.length_map] at k2
    rw [hsc, List.length_append, List.length_append, List.length_singleton]
    omega)
  rw [hsc] at hlx
  simp only [List.map_append, List.map_cons, List.map_nil, hAt, hf] at hlx
  have hS : Sg level (cs ++ cs'.map (List.map (Rl.renT f))) ((parse s).1.levels ++ (parse o).1.levels.map (renL f)) := a5.append (b5.ren (eqv_level f))
  have hb := braced_sg eat_level shut_level hS (t := ⟨3, [125], 0, A.length + 1 + B.length + 1⟩) (by rfl) []
  have hh : hall (Lx.lex (A ++ 10 :: (B ++ [10, 125]))).1 = .ok ⟨(parse s).1.name, (parse s).1.sx, (parse s).1.sy, (parse s).1.levels ++ (parse o).1.levels.map (renL f)⟩ [] := by
    rw [hlx]
    show hall (hd ++ cs.flatten ++ _) = _
    rw [List.append_assoc, a6]
    rw [List.flatten_append, List.append_assoc] at hb
    rw [show (cs'.map (List.map (Rl.renT f))).flatten = cs'.flatten.map (Rl.renT f) by rw [List.map_flatten]] at hb
    rw [hb]
    rfl
  have hp : parse (A ++ 10 :: (B ++ [10, 125])) = (⟨(parse s).1.name, (parse s).1.sx, (parse s).1.sy, (parse s).1.levels ++ (parse o).1.levels.map (renL f)⟩, 0, 0) := by
    rw [parse_of_lex (by rw [hlx]), hh]
    rfl
  refine ⟨(parse o).1.levels.map (renL f), by rw [hp], by rw [hp], ?_⟩
  refine simL_ren (f := renL (fun _ => 0)) simV_ren ?_
  rw [List.map_map]
  congr 1
  funext x
  simp [renL, renB, renA, renR, Function.comp_def]
end Pn
end Go.Proofs.YtocadlcglgpdcaaDoor
