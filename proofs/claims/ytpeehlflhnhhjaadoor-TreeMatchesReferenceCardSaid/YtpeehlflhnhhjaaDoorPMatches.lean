/-
  For every input the law TreeMatchesReference returns true and leaves its arguments as they were; the package-level tables that it reads start as the program's text lays them (the tied card).
-/
import Derived.Test.YtpeehlflhnhhjaaDoorCards
import Derived.Test.YtpeehlflhnhhjaaDoorTie
import Derived.Test.YtpeehlflhnhhjaaDoorRowT
import Derived.Test.YtpeehlflhnhhjaaDoorLwMatches
import Derived.SevenTiedAt
import Derived.SizedLaws
import Derived.ChangeOld
import Derived.Below
namespace Go.Proofs.YtpeehlflhnhhjaaDoor.treeMatchesReferenceP
open Go Go.ChangeShapes Go.WideShapes Go.ChangeAt Go.RowKit
open Go.ChangeMaps (open_string shut_string)
set_option linter.unusedVariables false
set_option linter.unusedSimpArgs false

theorem own : ownKnob Tryd.prog.godebug = none := by kernel_rfl
theorem laidOut : laidOutB Tryd.prog = true := by kernel_rfl

set_option maxRecDepth 100000 in
theorem lifted (os : Os) (started : os.Started) (H : Type) (enc : TypeId × Value → H) :
    ReturnsInHanded {} Tryd.checked os 3 .any (fun w args => (Rows.treeMatchesReferenceSpec.pre enc Tryd.prog Tryd.f3 [] false w args ∧ laidMetH Tryd.prog laidL w) ∧ sizedMet enc Tryd.prog Tryd.f3 (OpenSpec.ofChange Rows.treeMatchesReferenceSpec) false w args)
      (Rows.treeMatchesReferenceSpec.post enc Tryd.prog Tryd.f3 false true false false) := by
  refine returnsInHanded_of_change_and (C := Tryd.checked) (X := fun w _ => laidMetH Tryd.prog laidL w) (fun _ _ _ hh h => h.of_heap hh) own started (by kernel_rfl) Tryd.func3
    (ChangeSpec.witness_shaped (enc := enc) (C := Tryd.checked) (os := os) (X := fun w _ => laidMetH Tryd.prog laidL w) false (World.doorLaid Tryd.prog 400 os) #[.slice none 0 0, .int .i64 0, .string ⟨#[]⟩, .int .i64 0, .int .i64 0, .string ⟨#[]⟩, .slice none 0 0] 8 rfl (World.shaped_of_RefB (by kernel_rfl) (by kernel_rfl)) (by kernel_rfl) (by kernel_rfl) (by kernel_rfl) (door_met os _)) ?_
  intro W base args ds gs before hval0 hW _ hsz0 hL _
  have hval : ∀ (j : Nat) t v, Tryd.f3.params[j]? = some t → args[j]? = some v → Value.okWide Tryd.prog W .any base t v := hval0
  have hW' := hW
  obtain ⟨p, q, hA0, hV, rfl, hfz, hnd⟩ := hW
  have hA : DataW.TrodAll enc Tryd.prog W 0 (fun _ => true) true Tryd.f3.params.toList args.toList ds p := hA0
  have hsz : (DataW.weightsEach Tryd.prog (Tryd.f3.params.toList ++ Rows.treeMatchesReferenceSpec.plain.varTypes Tryd.prog) (ds ++ gs)).all (· ≤ reachBytes) = true := hsz0
  rw [Tryd.params3] at hA hval hsz
  obtain ⟨v0, vs0, d0, ds0, p0, q0, hargs, rfl, rfl, h0, r0⟩ := trodAll_cons hA
  obtain ⟨v1, vs1, d1, ds1, p1, q1, rfl, rfl, rfl, h1, r1⟩ := trodAll_cons r0
  obtain ⟨v2, vs2, d2, ds2, p2, q2, rfl, rfl, rfl, h2, r2⟩ := trodAll_cons r1
  obtain ⟨v3, vs3, d3, ds3, p3, q3, rfl, rfl, rfl, h3, r3⟩ := trodAll_cons r2
  obtain ⟨v4, vs4, d4, ds4, p4, q4, rfl, rfl, rfl, h4, r4⟩ := trodAll_cons r3
  obtain ⟨v5, vs5, d5, ds5, p5, q5, rfl, rfl, rfl, h5, r5⟩ := trodAll_cons r4
  obtain ⟨v6, vs6, d6, ds6, p6, q6, rfl, rfl, rfl, h6, r6⟩ := trodAll_cons r5
  obtain ⟨rfl, rfl, rfl⟩ := trodAll_nil r6
  obtain rfl : args = #[v0, v1, v2, v3, v4, v5, v6] := by cases args; simp_all
  obtain ⟨rfl, rfl⟩ := trodVars_none hV
  have k0 := h0
  have lt0 : ∀ x ∈ p0, x.block < W.heap.size := by obtain ⟨m, hm⟩ := k0; exact DataW.trod_lt m _ _ _ hm
  have k1 := h1
  have lt1 : ∀ x ∈ p1, x.block < W.heap.size := by obtain ⟨m, hm⟩ := k1; exact DataW.trod_lt m _ _ _ hm
  have k2 := h2
  have lt2 : ∀ x ∈ p2, x.block < W.heap.size := by obtain ⟨m, hm⟩ := k2; exact DataW.trod_lt m _ _ _ hm
  have k3 := h3
  have lt3 : ∀ x ∈ p3, x.block < W.heap.size := by obtain ⟨m, hm⟩ := k3; exact DataW.trod_lt m _ _ _ hm
  have k4 := h4
  have lt4 : ∀ x ∈ p4, x.block < W.heap.size := by obtain ⟨m, hm⟩ := k4; exact DataW.trod_lt m _ _ _ hm
  have k5 := h5
  have lt5 : ∀ x ∈ p5, x.block < W.heap.size := by obtain ⟨m, hm⟩ := k5; exact DataW.trod_lt m _ _ _ hm
  have k6 := h6
  have lt6 : ∀ x ∈ p6, x.block < W.heap.size := by obtain ⟨m, hm⟩ := k6; exact DataW.trod_lt m _ _ _ hm
  obtain ⟨l0, hs0, hm0⟩ : ∃ l, Strs W v0 l ∧ Small l := by
    obtain ⟨ax, lx, cx, rfl⟩ := okWide_slice Tryd.underlying22 (hval 0 22 v0 rfl rfl)
    obtain ⟨fuel, hf⟩ := h0
    obtain ⟨v, l, hcs, h1, h2⟩ := open_strs hf
    simp [Value.cells] at hcs
    subst hcs
    exact ⟨l, h1, h2⟩
  obtain ⟨a1, rfl, b1⟩ : ∃ x : Int, v1 = .int .i64 x ∧ -9223372036854775808 ≤ x ∧ x ≤ 9223372036854775807 := by
    obtain ⟨x, rfl, _, _, wx⟩ := open_int Tryd.underlying3 (hval 1 3 v1 rfl rfl) h1
    exact ⟨x, rfl, bd_i64 wx⟩
  obtain ⟨s2, rfl, b2⟩ : ∃ s : Bytes, v2 = .string ⟨s.toArray⟩ ∧ s.length ≤ 140737488351232 := by
    obtain ⟨s, rfl, hd, _, _⟩ := open_string Tryd.underlying9 (hval 2 9 v2 rfl rfl) h2
    have h9 := sized_string hsz (j := 2) (t := 9) (bytes := s.data.toList) rfl (by rw [hd]; rfl)
    exact ⟨s.data.toList, rfl, by simpa [reachBytes] using h9⟩
  obtain ⟨a3, rfl, b3⟩ : ∃ x : Int, v3 = .int .i64 x ∧ -9223372036854775808 ≤ x ∧ x ≤ 9223372036854775807 := by
    obtain ⟨x, rfl, _, _, wx⟩ := open_int Tryd.underlying3 (hval 3 3 v3 rfl rfl) h3
    exact ⟨x, rfl, bd_i64 wx⟩
  obtain ⟨a4, rfl, b4⟩ : ∃ x : Int, v4 = .int .i64 x ∧ -9223372036854775808 ≤ x ∧ x ≤ 9223372036854775807 := by
    obtain ⟨x, rfl, _, _, wx⟩ := open_int Tryd.underlying3 (hval 4 3 v4 rfl rfl) h4
    exact ⟨x, rfl, bd_i64 wx⟩
  obtain ⟨s5, rfl, b5⟩ : ∃ s : Bytes, v5 = .string ⟨s.toArray⟩ ∧ s.length ≤ 140737488351232 := by
    obtain ⟨s, rfl, hd, _, _⟩ := open_string Tryd.underlying9 (hval 5 9 v5 rfl rfl) h5
    have h9 := sized_string hsz (j := 5) (t := 9) (bytes := s.data.toList) rfl (by rw [hd]; rfl)
    exact ⟨s.data.toList, rfl, by simpa [reachBytes] using h9⟩
  obtain ⟨l6, hs6, hm6⟩ : ∃ l, Strs W v6 l ∧ Small l := by
    obtain ⟨ax, lx, cx, rfl⟩ := okWide_slice Tryd.underlying22 (hval 6 22 v6 rfl rfl)
    obtain ⟨fuel, hf⟩ := h6
    obtain ⟨v, l, hcs, h1, h2⟩ := open_strs hf
    simp [Value.cells] at hcs
    subst hcs
    exact ⟨l, h1, h2⟩
  clear hA0 hval0
  refine (matches_walk W (Lib.hid (of_laid hL)) v0 l0 (Lib.hid hs0) (Lib.hid hm0) a1 b1 s2 b2 a3 b3 a4 b4 s5 b5 v6 l6 (Lib.hid hs6) (Lib.hid hm6)).mono fun e W' ⟨he, hchg⟩ => ?_
  have bel : Below W.heap.size W W' := hchg.below (Nat.le_refl _) (by simp)
  subst he
  exact ⟨_, rfl, _, _, _, [], _, [], hW', trodAll_mk1 (shut_bool Tryd.underlying4 _), (trodAll_cons_mk (Below.trod laidOut (by kernel_rfl) (of_decide_eq_true (by kernel_rfl)) k0 bel lt0) (trodAll_cons_mk (Below.trod laidOut (by kernel_rfl) (of_decide_eq_true (by kernel_rfl)) k1 bel lt1) (trodAll_cons_mk (Below.trod laidOut (by kernel_rfl) (of_decide_eq_true (by kernel_rfl)) k2 bel lt2) (trodAll_cons_mk (Below.trod laidOut (by kernel_rfl) (of_decide_eq_true (by kernel_rfl)) k3 bel lt3) (trodAll_cons_mk (Below.trod laidOut (by kernel_rfl) (of_decide_eq_true (by kernel_rfl)) k4 bel lt4) (trodAll_cons_mk (Below.trod laidOut (by kernel_rfl) (of_decide_eq_true (by kernel_rfl)) k5 bel lt5) (trodAll_cons_mk (Below.trod laidOut (by kernel_rfl) (of_decide_eq_true (by kernel_rfl)) k6 bel lt6) trodAll_mk0))))))), rfl, bel.frame _, fun h => by cases h⟩

theorem over : Rows.TreeMatchesReferenceSaid :=
  OpenClaim.holds_of_wide 3 Tryd.f3 rfl rfl rfl rfl rfl rfl rfl ⟨rfl, rfl, rfl, rfl, rfl⟩ rfl rfl rfl rfl rfl (by kernel_rfl) Tryd.func3 (by kernel_rfl)
    (of_decide_eq_true (by kernel_rfl)) (by unfold Func.isWrapper; first | (rw [if_pos (by decide +kernel)]; kernel_rfl) | (rw [if_neg (by decide +kernel)]; exact ⟨rfl, rfl⟩))
    (fun os started H enc _ => lifted os started H enc)
theorem proved : Rows.TreeMatchesReferenceCardSaid :=
  Claim7.holds_tied_plain_at .later [] [.data, .data, .data, .data] true (true, "589d19026e15b91eb72de41e7855e3b6c682540073c3afe0793c63af031ca424") false
    over (fun _ h => by cases h) (by kernel_rfl) (fun _ h => by cases h) treeMatchesReference_row_tie rfl ⟨rfl, rfl⟩ (by kernel_rfl) rfl
    (fun f fn hf hfn => by
      obtain rfl : f = 3 := Option.some.inj ((show Tryd.prog.funcNamed "foyer/foyerlaw04.TreeMatchesReference" = some 3 by kernel_rfl).symm.trans hf) |>.symm
      obtain rfl : fn = Tryd.f3 := (Option.some.inj (Tryd.func3.symm.trans hfn)).symm
      exact ⟨by kernel_rfl, fun j t ht => by
        rw [Tryd.params3] at ht
        have hm : t ∈ [22, 3, 9, 3, 3, 9, 22] := by simpa using Array.mem_of_getElem? ht
        have hall : ([22, 3, 9, 3, 3, 9, 22].all fun u => !Tryd.prog.wantsStandIn u) = true := by kernel_rfl
        exact (show Tryd.prog.wantsStandIn t = false by simpa using List.all_eq_true.1 hall t hm)⟩)
    (by kernel_rfl)
end Go.Proofs.YtpeehlflhnhhjaaDoor.treeMatchesReferenceP
