/-
  Plan, layer 5: numbers.
-/
import Derived.Test.YtocadlcglgpdcaaDoorPnD
namespace Go.Proofs.YtocadlcglgpdcaaDoor
set_option linter.unusedVariables false
set_option linter.unusedSimpArgs false
open Go Go.RowKit Go.Shelf
open Lx (Tk)
namespace Pn
open Rl (Out)
def nums : Nat → List Tk → Out (List Nat)
  | 0, l => .ok [] l
  | n + 1, l => (nums n l).bind fun ns r => (num r).bind fun x q => .ok (ns ++ [x]) q
/-- Cells in which numbers are put, at offsets. -/
def setL : List Value → List Nat → List Nat → List Value
  | cs, o :: os, n :: ns => setL (cs.set o (.int .i64 (n : Nat))) os ns
  | cs, _, _ => cs
theorem setL_nil (cs : List Value) (os : List Nat) : setL cs os [] = cs := by cases os <;> rfl
theorem setL_snoc (o n : Nat) : ∀ (os ns : List Nat) (cs : List Value), os.length = ns.length → setL cs (os ++ [o]) (ns ++ [n]) = (setL cs os ns).set o (.int .i64 (n : Nat))
  | [], [], cs, _ => rfl
  | [], _ :: _, cs, h => by simp at h
  | _ :: _, [], cs, h => by simp at h
  | p :: os, m :: ns, cs, h => setL_snoc o n os ns (cs.set p (.int .i64 (m : Nat))) (by simpa using h)
theorem setL_len : ∀ (os ns : List Nat) (cs : List Value), (setL cs os ns).length = cs.length
  | [], ns, cs => by cases ns <;> rfl
  | _ :: _, [], cs => rfl
  | o :: os, n :: ns, cs => by
    show (setL (cs.set o _) os ns).length = _
    rw [setL_len os ns]
    simp
theorem nums_len : ∀ (n : Nat) (l : List Tk) (ns : List Nat) (r : List Tk), nums n l = .ok ns r → ns.length = n
  | 0, l, ns, r, h => by
    simp only [nums, Out.ok.injEq] at h
    rw [← h.1]
    rfl
  | n + 1, l, ns, r, h => by
    unfold nums at h
    cases h1 : nums n l with
    | bad c q => rw [h1] at h; cases h
    | ok ms q =>
      rw [h1] at h
      cases h2 : num q with
      | bad c q' => simp only [Out.bind, h2] at h; cases h
      | ok x q' =>
        simp only [Out.bind, h2, Out.ok.injEq] at h
        rw [← h.1, List.length_append, nums_len n l ms q h1]
        rfl
end Pn
open Pn (nums num setL)
theorem field_n (a b c d : Value) (w : World) : (Instr.field 40 (.agg #[a, b, c, d]) 2).run Tryd.prog w = .ok c w := by kernel_rfl
theorem field_text (a b c d : Value) (w : World) : (Instr.field 40 (.agg #[a, b, c, d]) 1).run Tryd.prog w = .ok b w := by kernel_rfl
set_option maxHeartbeats 1000000 in
set_option maxRecDepth 100000 in
theorem numbers_two {w : World} {b en : Nat} {l : List Tk} (HP : Hid (Pp w b l en)) {g D : Nat} {T : TypeId} {cs : List Value} (offs : List Nat) (HG : Hid (Blk w g (offs.map (fun o => .pointer (some ⟨D, o, none⟩))) 73)) (HD : Hid (Blk w D cs T))
    (HO : Hid (∀ o ∈ offs, o < cs.length)) (HN : Hid (b < D ∧ g ≠ b ∧ g ≠ D ∧ offs.length ≤ 4)) {R : Ending → World → Prop}
    (hok : ∀ (ns : List Nat) (r : List Tk) (w' : World), Hid (nums offs.length l = .ok ns r) → Hid (ns.length = offs.length) → Hid (Pp w' b r en) → Hid (Blk w' D (setL cs offs ns) T) → Hid (Chg [b, D] w w') → R (.returned (.tuple #[])) w')
    (hbad : ∀ (c : Nat) (r : List Tk) (w' : World), Hid (nums offs.length l = .bad c r) → Hid (Chg [b, D] w w') → R (.panicked [{ v := flt c r en, recovered := false }]) w') :
    Calls Tryd.prog 21 #[.pointer (some ⟨b, 0, none⟩), .slice (some ⟨g, 0, none⟩) offs.length offs.length] w R := by
  refine (show Calls Tryd.prog 21 #[.pointer (some ⟨b, 0, none⟩), .slice (some ⟨g, 0, none⟩) offs.length offs.length] w (fun e w' => (∃ ns r, e = .returned (.tuple #[]) ∧ nums offs.length l = .ok ns r ∧ Pp w' b r en ∧ Blk w' D (setL cs offs ns) T ∧ Chg [b, D] w w') ∨ (∃ c r, e = .panicked [{ v := flt c r en, recovered := false }] ∧ nums offs.length l = .bad c r ∧ Chg [b, D] w w')) from ?_).mono (fun e w' hx => by
    rcases hx with ⟨ns, r, rfl, h1, h2, h3, h4⟩ | ⟨c, r, rfl, h1, h2⟩
    · exact hok ns r w' (Lib.hid h1) (Lib.hid (Pn.nums_len _ _ _ _ h1)) (Lib.hid h2) (Lib.hid h3) (Lib.hid h4)
    · exact hbad c r w' (Lib.hid h1) (Lib.hid h2))
  clear hok hbad
  obtain ⟨n, hn⟩ : ∃ n, offs.length = n := ⟨_, rfl⟩
  have HNN := Lib.hid hn
  rw [hn]
  have hn4 : n ≤ 4 := by have := HN.out.2.2.2; omega
  clear hn
  go_enter Tryd.func21, Tryd.ntmps21
  go_wp2_with fail
  go_loopw [8] (fun i wr => ∃ (j : Nat) (ns : List Nat) (r : List Tk), i = .int .i64 (j : Int) ∧ j ≤ n ∧ Hid (nums j l = .ok ns r ∧ ns.length = j) ∧ Hid (Pp wr b r en) ∧ Hid (Blk wr D (setL cs (offs.take j) ns) T) ∧ Hid (Chg [b, D] w wr)) (fun i _ => n - (intOf i).toNat)
  case atStart => exact ⟨0, [], l, rfl, Nat.zero_le _, Lib.hid ⟨rfl, rfl⟩, HP, Lib.hid (by rw [Pn.setL_nil]; exact HD.out), Lib.hid (Chg.refl _ _)⟩
  case round =>
    obtain ⟨j, ns, r, rfl, hj, HNS, HPr, HDr, HC⟩ := hrel
    by_cases hlt : j < n
    · obtain ⟨o, ho⟩ : ∃ o, offs[j]? = some o := ⟨offs[j]'(by rw [HNN.out]; exact hlt), by simp⟩
      have HOJ := Lib.hid ho
      have hg : wr.cell? ⟨g, j, none⟩ = some (.pointer (some ⟨D, o, none⟩)) := (HC.out.blk HG.out (by simp; exact ⟨HN.out.2.1, HN.out.2.2.1⟩)).cell (by rw [List.getElem?_map, ho]; rfl)
      have hol : o < (setL cs (offs.take j) ns).length := by rw [Pn.setL_len]; exact HO.out o (List.mem_of_getElem? ho)
      obtain ⟨vo, hvo⟩ : ∃ v, (setL cs (offs.take j) ns)[o]? = some v := ⟨(setL cs (offs.take j) ns)[o], List.getElem?_eq_getElem hol⟩
      have HVO := Lib.hid hvo
      clear ho hol hvo
      have q0 : (0 : Int) ≤ (j : Int) := by omega
      have q1 : (j : Int) < (n : Int) := by omega
      have q2 : ((j : Int)).toNat = j := by omega
      go_wp2_with fail
      refine take_two HPr 2 (fun t q w1 HT HP1 HC1 => ?_) (fun c q w1 HT HC1 => ?_)
      · have hD1 : Hid (Blk w1 D (setL cs (offs.take j) ns) T) := Lib.hid (HC1.out.blk HDr.out (by have := HN.out.1; simp; omega))
        have u0 := hD1.out.cell HVO.out
        have u1 := hD1.out.free o
        have hf := fun W => field_n (.int .i64 (t.kind : Nat)) (.string ⟨t.text.toArray⟩) (.int .i64 (t.n : Nat)) (.int .i64 (t.at_ : Nat)) W
        go_wp2_with fail
        refine ⟨?_, by simp [intOf]; omega⟩
        have hc : Chg [b, D] wr (w1.setCell ⟨D, o, none⟩ (.int .i64 (t.n : Nat))) := (HC1.out.mono (by simp)).setCell _ _ (.inl (by simp))
        have HNS1 : Hid (nums (j + 1) l = .ok (ns ++ [t.n]) q ∧ (ns ++ [t.n]).length = j + 1) := Lib.hid ⟨by unfold nums; rw [HNS.out.1]; simp only [Rl.Out.bind]; unfold num; rw [HT.out]; rfl, by rw [List.length_append, HNS.out.2]; rfl⟩
        have HP2 : Hid (Pp (w1.setCell ⟨D, o, none⟩ (.int .i64 (t.n : Nat))) b q en) := Lib.hid (HP1.out.keep (own := [D]) ((Chg.refl _ _).setCell _ _ (.inl (by simp))) (fun k hk => by simp only [List.mem_cons, List.not_mem_nil, or_false] at hk; subst hk; exact HN.out.1))
        have HD2 : Hid (Blk (w1.setCell ⟨D, o, none⟩ (.int .i64 (t.n : Nat))) D (setL cs (offs.take (j + 1)) (ns ++ [t.n])) T) := Lib.hid (by
          have e : offs.take (j + 1) = offs.take j ++ [o] := by rw [List.take_add_one, HOJ.out]; rfl
          rw [e, Pn.setL_snoc _ _ _ _ _ (by rw [List.length_take, HNN.out, HNS.out.2]; omega)]
          exact hD1.out.set o _)
        have HC2 : Hid (Chg [b, D] w (w1.setCell ⟨D, o, none⟩ (.int .i64 (t.n : Nat)))) := Lib.hid (HC.out.trans hc (fun k hk => .inl hk))
        have hjj : Value.int IntKind.i64 ((j : Int) + 1) = .int .i64 ((j + 1 : Nat) : Int) := rfl
        first | exact ⟨j + 1, ns ++ [t.n], q, hjj, by omega, HNS1, HP2, HD2, HC2⟩ | ((repeat apply Exists.intro); exact ⟨⟨j + 1, ns ++ [t.n], q, hjj, by omega, HNS1, HP2, HD2, HC2⟩, rfl⟩)
      · have hbadn : nums n l = .bad c q := by
          have h1 : nums (j + 1) l = .bad c q := by
            unfold nums
            rw [HNS.out.1]
            simp only [Rl.Out.bind]
            unfold num
            rw [HT.out]
            rfl
          have h2 : ∀ d, nums (j + 1 + d) l = .bad c q := by
            intro d
            induction d with
            | zero => exact h1
            | succ d ih =>
              show (nums (j + 1 + d) l).bind _ = _
              rw [ih]
              rfl
          have := h2 (n - (j + 1))
          rw [show j + 1 + (n - (j + 1)) = n by omega] at this
          exact this
        have HBN := Lib.hid hbadn
        clear hbadn
        go_wp2_with fail
        have hcf : Chg [b, D] w w1 := HC.out.trans (HC1.out.mono (own1 := [b, D]) (by simp)) (fun k hk => .inl hk)
        first | exact ⟨rfl, .inr ⟨c, q, rfl, HBN.out, hcf⟩⟩ | exact ⟨rfl, .inr ⟨c, q, HBN.out, rfl, hcf⟩⟩
    · have q1 : ¬ (j : Int) < (n : Int) := by omega
      obtain rfl : j = n := by omega
      go_wp2_with fail
      refine bodyPost_end (results_none rfl _ _ _) rfl ?_
      have hd := HDr.out
      rw [List.take_of_length_le (by rw [HNN.out]; exact Nat.le_refl _)] at hd
      first | exact .inl ⟨ns, r, rfl, HNS.out.1, HPr.out, hd, HC.out⟩ | exact .inl ⟨rfl, ns, r, HNS.out.1, HPr.out, hd, HC.out⟩
end Go.Proofs.YtocadlcglgpdcaaDoor
