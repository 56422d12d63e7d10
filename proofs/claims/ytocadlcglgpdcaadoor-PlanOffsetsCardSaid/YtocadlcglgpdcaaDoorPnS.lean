/-
  Plan, layer 18: the hall's block, that lies below the parser's. Printed by genpns06.py.
-/
import Derived.Test.YtocadlcglgpdcaaDoorPnR
namespace Go.Proofs.YtocadlcglgpdcaaDoor
set_option linter.unusedVariables false
set_option linter.unusedSimpArgs false
open Go Go.RowKit Go.Shelf
open Lx (Tk)
open Pn (nums num num2 setL)
set_option maxHeartbeats 1000000 in
set_option maxRecDepth 100000 in
theorem numbers_gen {w : World} {b en : Nat} {l : List Tk} (HP : Hid (Pp w b l en)) {g D : Nat} {T : TypeId} {cs : List Value} (offs : List Nat) (HG : Hid (Blk w g (offs.map (fun o => .pointer (some ⟨D, o, none⟩))) 73)) (HD : Hid (Blk w D cs T))
    (HO : Hid (∀ o ∈ offs, o < cs.length)) (HN : Hid (D ≠ b ∧ g ≠ b ∧ g ≠ D ∧ offs.length ≤ 4)) (HKP : Hid (∀ (w1 : World) (l' : List Tk) (os ns : List Nat) (o n : Nat), o ∈ offs → (∀ z ∈ os, z ∈ offs) → Pp w1 b l' en → Blk w1 D (setL cs os ns) T → Pp (w1.setCell ⟨D, o, none⟩ (.int .i64 (n : Nat))) b l' en)) {R : Ending → World → Prop}
    (hok : ∀ (ns : List Nat) (r : List Tk) (w' : World), Hid (nums offs.length l = .ok ns r) → Hid (ns.length = offs.length) → Hid (Pp w' b r en) → Hid (Blk w' D (setL cs offs ns) T) → Hid (Chg [b, D] w w') → R (.returned (.tuple #[])) w')
    (hbad : ∀ (c : Nat) (r : List Tk) (w' : World), Hid (nums offs.length l = .bad c r) → Hid (Chg [b, D] w w') → Hid (∃ os zs, (∀ z ∈ os, z ∈ offs) ∧ Blk w' D (setL cs os zs) T) → R (.panicked [{ v := flt c r en, recovered := false }]) w') :
    Calls Tryd.prog 21 #[.pointer (some ⟨b, 0, none⟩), .slice (some ⟨g, 0, none⟩) offs.length offs.length] w R := by
  refine (show Calls Tryd.prog 21 #[.pointer (some ⟨b, 0, none⟩), .slice (some ⟨g, 0, none⟩) offs.length offs.length] w (fun e w' => (∃ ns r, e = .returned (.tuple #[]) ∧ nums offs.length l = .ok ns r ∧ Pp w' b r en ∧ Blk w' D (setL cs offs ns) T ∧ Chg [b, D] w w') ∨ (∃ c r, e = .panicked [{ v := flt c r en, recovered := false }] ∧ nums offs.length l = .bad c r ∧ Chg [b, D] w w' ∧ (∃ os zs, (∀ z ∈ os, z ∈ offs) ∧ Blk w' D (setL cs os zs) T))) from ?_).mono (fun e w' hx => by
    rcases hx with ⟨ns, r, rfl, h1, h2, h3, h4⟩ | ⟨c, r, rfl, h1, h2, h3⟩
    · exact hok ns r w' (Lib.hid h1) (Lib.hid (Pn.nums_len _ _ _ _ h1)) (Lib.hid h2) (Lib.hid h3) (Lib.hid h4)
    · exact hbad c r w' (Lib.hid h1) (Lib.hid h2) (Lib.hid h3))
  clear hok hbad
  obtain ⟨n, hn⟩ : ∃ n, offs.length = n := ⟨_, rfl⟩
  have HNN := Lib.hid hn
  rw [hn]
  have hn4 : n ≤ 4 := by have := HN.out.2.2.2; omega
  clear hn
  go_enter Tryd.func21, Tryd.ntmps21
  go_wp2_with fail
  go_loopw [8] (fun i wr => ∃ (j : Nat) (ns : List Nat) (r : List Tk), i = .int .i64 (j : Int) ∧ j ≤ n ∧ Hid (nums j l = .ok ns r ∧ ns.length = j) ∧ Hid (Pp wr b r en) ∧ Hid (Blk wr D (setL cs (offs.take j) ns) T) ∧ Hid (Chg [b, D] w wr)) (fun i _ => n - (intOf i).toNat)
  case atStart => exact ⟨0, [], l, rfl, Nat.zero_le _, Lib.hid ⟨rfl, rfl⟩, HP, Lib.hid (by rw [Pn.setL_nil]; exact HD.out), Lib.hid (Chg.refl _ _)⟩
  case round =>
    obtain ⟨j, ns, r, rfl, hj, HNS, HPr, HDr, HC⟩ := hrel
    by_cases hlt : j < n
    · obtain ⟨o, ho⟩ : ∃ o, offs[j]? = some o := ⟨offs[j]'(by rw [HNN.out]; exact hlt), by simp⟩
      have HOJ := Lib.hid ho
      have hg : wr.cell? ⟨g, j, none⟩ = some (.pointer (some ⟨D, o, none⟩)) := (HC.out.blk HG.out (by simp; exact ⟨HN.out.2.1, HN.out.2.2.1⟩)).cell (by rw [List.getElem?_map, ho]; rfl)
      have hol : o < (setL cs (offs.take j) ns).length := by rw [Pn.setL_len]; exact HO.out o (List.mem_of_getElem? ho)
      obtain ⟨vo, hvo⟩ : ∃ v, (setL cs (offs.take j) ns)[o]? = some v := ⟨(setL cs (offs.take j) ns)[o], List.getElem?_eq_getElem hol⟩
      have HVO := Lib.hid hvo
      clear ho hol hvo
      have q0 : (0 : Int) ≤ (j : Int) := by omega
      have q1 : (j : Int) < (n : Int) := by omega
      have q2 : ((j : Int)).toNat = j := by omega
      go_wp2_with fail
      refine take_two HPr 2 (fun t q w1 HT HP1 HC1 => ?_) (fun c q w1 HT HC1 => ?_)
      · have hD1 : Hid (Blk w1 D (setL cs (offs.take j) ns) T) := Lib.hid (HC1.out.blk HDr.out (by simp; exact HN.out.1))
        have u0 := hD1.out.cell HVO.out
        have u1 := hD1.out.free o
        have hf := fun W => field_n (.int .i64 (t.kind : Nat)) (.string ⟨t.text.toArray⟩) (.int .i64 (t.n : Nat)) (.int .i64 (t.at_ : Nat)) W
        go_wp2_with fail
        refine ⟨?_, by simp [intOf]; omega⟩
        have hc : Chg [b, D] wr (w1.setCell ⟨D, o, none⟩ (.int .i64 (t.n : Nat))) := (HC1.out.mono (by simp)).setCell _ _ (.inl (by simp))
        have HNS1 : Hid (nums (j + 1) l = .ok (ns ++ [t.n]) q ∧ (ns ++ [t.n]).length = j + 1) := Lib.hid ⟨by unfold nums; rw [HNS.out.1]; simp only [Rl.Out.bind]; unfold num; rw [HT.out]; rfl, by rw [List.length_append, HNS.out.2]; rfl⟩
        have HP2 : Hid (Pp (w1.setCell ⟨D, o, none⟩ (.int .i64 (t.n : Nat))) b q en) := Lib.hid (HKP.out w1 q (offs.take j) ns o t.n (List.mem_of_getElem? HOJ.out) (fun z hz => List.mem_of_mem_take hz) HP1.out hD1.out)
        have HD2 : Hid (Blk (w1.setCell ⟨D, o, none⟩ (.int .i64 (t.n : Nat))) D (setL cs (offs.take (j + 1)) (ns ++ [t.n])) T) := Lib.hid (by
          have e : offs.take (j + 1) = offs.take j ++ [o] := by rw [List.take_add_one, HOJ.out]; rfl
          rw [e, Pn.setL_snoc _ _ _ _ _ (by rw [List.length_take, HNN.out, HNS.out.2]; omega)]
          exact hD1.out.set o _)
        have HC2 : Hid (Chg [b, D] w (w1.setCell ⟨D, o, none⟩ (.int .i64 (t.n : Nat)))) := Lib.hid (HC.out.trans hc (fun k hk => .inl hk))
        have hjj : Value.int IntKind.i64 ((j : Int) + 1) = .int .i64 ((j + 1 : Nat) : Int) := rfl
        first | exact ⟨j + 1, ns ++ [t.n], q, hjj, by omega, HNS1, HP2, HD2, HC2⟩ | ((repeat apply Exists.intro); exact ⟨⟨j + 1, ns ++ [t.n], q, hjj, by omega, HNS1, HP2, HD2, HC2⟩, rfl⟩)
      · have hbadn : nums n l = .bad c q := by
          have h1 : nums (j + 1) l = .bad c q := by
            unfold nums
            rw [HNS.out.1]
            simp only [Rl.Out.bind]
            unfold num
            rw [HT.out]
            rfl
          have h2 : ∀ d, nums (j + 1 + d) l = .bad c q := by
            intro d
            induction d with
            | zero => exact h1
            | succ d ih =>
              show (nums (j + 1 + d) l).bind _ = _
              rw [ih]
              rfl
          have := h2 (n - (j + 1))
          rw [show j + 1 + (n - (j + 1)) = n by omega] at this
          exact this
        have HBN := Lib.hid hbadn
        clear hbadn
        go_wp2_with fail
        have hcf : Chg [b, D] w w1 := HC.out.trans (HC1.out.mono (own1 := [b, D]) (by simp)) (fun k hk => .inl hk)
        have hex : ∃ os zs, (∀ z ∈ os, z ∈ offs) ∧ Blk w1 D (setL cs os zs) T := ⟨offs.take j, ns, fun z hz => List.mem_of_mem_take hz, HC1.out.blk HDr.out (by simp; exact HN.out.1)⟩
        first | exact ⟨rfl, .inr ⟨c, q, rfl, HBN.out, hcf, hex⟩⟩ | exact ⟨rfl, .inr ⟨c, q, HBN.out, rfl, hcf, hex⟩⟩
    · have q1 : ¬ (j : Int) < (n : Int) := by omega
      obtain rfl : j = n := by omega
      go_wp2_with fail
      refine bodyPost_end (results_none rfl _ _ _) rfl ?_
      have hd := HDr.out
      rw [List.take_of_length_le (by rw [HNN.out]; exact Nat.le_refl _)] at hd
      first | exact .inl ⟨ns, r, rfl, HNS.out.1, HPr.out, hd, HC.out⟩ | exact .inl ⟨rfl, ns, r, HNS.out.1, HPr.out, hd, HC.out⟩
/-- Tokens do not lie in a block of a string, two numbers and a slice. -/
theorem Pp.hall {w w' : World} {b en k : Nat} {l : List Tk} {a : ByteArray} {x y : Int} {p : Option Addr} {n c : Nat} {E : TypeId} (h : Pp w b l en) (hk : Blk w k [.string a, .int .i64 x, .int .i64 y, .slice p n c] E) (hne : k ≠ b) (hc : Chg [k] w w') : Pp w' b l en := by
  obtain ⟨L, i, ao, cap, e1, e2, e3, k1, k2, k3⟩ := h
  refine ⟨L, i, ao, cap, e1, e2, e3, hc.blk k1 (by simpa using hne.symm), ?_, k3⟩
  obtain ⟨ao', cap', j1, j2, j3⟩ := k2
  cases j1
  refine ⟨ao, cap, rfl, j2, fun j t ht => ?_⟩
  obtain ⟨g, off, j4, j5, j6, j7, j8⟩ := j3 j t ht
  have hg0 : g ≠ k := fun e => by
    subst e
    unfold Blk at hk
    rw [cell_of_row w g _ _ E (0, 0) hk] at j6
    obtain ⟨z, hz⟩ : ∃ z, off + 4 * j = z := ⟨_, rfl⟩
    rw [hz] at j6
    match z, j6 with
    | 0, j6 => simp at j6
    | 1, j6 => simp at j6
    | 2, j6 => simp at j6
    | z + 3, j6 => simp at j6
  have hg : w'.heap[g]? = w.heap[g]? := hc.block g (World.block_lt_of_cell? _ _ j5) (by simpa using hg0)
  exact ⟨g, off, j4, (World.cell?_of_block (a := ⟨g, off + 4 * j, none⟩) hg).trans j5, (World.cell?_of_block (a := ⟨g, off + 4 * j + 1, none⟩) hg).trans j6, (World.cell?_of_block (a := ⟨g, off + 4 * j + 2, none⟩) hg).trans j7, (World.cell?_of_block (a := ⟨g, off + 4 * j + 3, none⟩) hg).trans j8⟩
/-- The stage's two numbers, read into the hall. -/
theorem stage_two {w : World} {b en : Nat} {l : List Tk} (HP : Hid (Pp w b l en)) {g D : Nat} {a : ByteArray} {p : Option Addr} {n c : Nat} (HG : Hid (Blk w g [.pointer (some ⟨D, 1, none⟩), .pointer (some ⟨D, 2, none⟩)] 73)) (HD : Hid (Blk w D [.string a, .int .i64 0, .int .i64 0, .slice p n c] 27)) (HN : Hid (D ≠ b ∧ g ≠ b ∧ g ≠ D)) {R : Ending → World → Prop}
    (hok : ∀ (x y : Nat) (r : List Tk) (w' : World), Hid (num2 l = .ok (x, y) r) → Hid (Pp w' b r en) → Hid (Blk w' D [.string a, .int .i64 (x : Nat), .int .i64 (y : Nat), .slice p n c] 27) → Hid (Chg [b, D] w w') → R (.returned (.tuple #[])) w')
    (hbad : ∀ (c : Nat) (r : List Tk) (w' : World), Hid (num2 l = .bad c r) → Hid (Chg [b, D] w w') → Hid (∃ z0 z1 z2 z3, Blk w' D [z0, z1, z2, z3] 27) → R (.panicked [{ v := flt c r en, recovered := false }]) w') :
    Calls Tryd.prog 21 #[.pointer (some ⟨b, 0, none⟩), .slice (some ⟨g, 0, none⟩) 2 2] w R := by
  have key : ∀ (os ns : List Nat) (x y : Int), (∀ z ∈ os, z ∈ [1, 2]) → ∃ x' y' : Int, setL [.string a, .int .i64 x, .int .i64 y, .slice p n c] os ns = [.string a, .int .i64 x', .int .i64 y', .slice p n c] := by
    intro os
    induction os with
    | nil => intro ns x y _; exact ⟨x, y, by cases ns <;> rfl⟩
    | cons z os ih =>
      intro ns x y hz
      cases ns with
      | nil => exact ⟨x, y, rfl⟩
      | cons m ns =>
        have h1 := hz z (by simp)
        simp only [List.mem_cons, List.not_mem_nil, or_false] at h1
        rcases h1 with rfl | rfl
        · exact ih ns (m : Int) y (fun q hq => hz q (by simp [hq]))
        · exact ih ns x (m : Int) (fun q hq => hz q (by simp [hq]))
  have hkp : ∀ (w1 : World) (l' : List Tk) (os ns : List Nat) (o n' : Nat), o ∈ [1, 2] → (∀ z ∈ os, z ∈ [1, 2]) → Pp w1 b l' en → Blk w1 D (setL [.string a, .int .i64 0, .int .i64 0, .slice p n c] os ns) 27 → Pp (w1.setCell ⟨D, o, none⟩ (.int .i64 (n' : Nat))) b l' en := by
    intro w1 l' os ns o n' ho hos hp hb
    obtain ⟨x', y', e⟩ := key os ns 0 0 hos
    rw [e] at hb
    exact hp.hall hb HN.out.1 ((Chg.refl _ _).setCell _ _ (.inl (by simp)))
  refine numbers_gen HP [1, 2] HG HD (Lib.hid (by simp)) (Lib.hid ⟨HN.out.1, HN.out.2.1, HN.out.2.2, by simp⟩) (Lib.hid hkp) (fun ns r w' h1 h2 h3 h4 h5 => ?_) (fun c r w' h1 h2 h3 => ?_)
  · have h := h1.out
    rw [show ([1, 2] : List Nat).length = 2 from rfl, Pn.nums2_eq] at h
    cases hx : num2 l with
    | bad c q => rw [hx] at h; cases h
    | ok x q =>
      rw [hx] at h
      simp only [Rl.Out.bind, Rl.Out.ok.injEq] at h
      obtain ⟨rfl, rfl⟩ := h
      exact hok x.1 x.2 q w' (Lib.hid hx) h3 h4 h5
  · have h := h1.out
    rw [show ([1, 2] : List Nat).length = 2 from rfl, Pn.nums2_eq] at h
    cases hx : num2 l with
    | ok x q => rw [hx] at h; cases h
    | bad c' q =>
      rw [hx] at h
      simp only [Rl.Out.bind, Rl.Out.bad.injEq] at h
      obtain ⟨rfl, rfl⟩ := h
      obtain ⟨os, zs, e1, e2⟩ := h3.out
      obtain ⟨x', y', e⟩ := key os zs 0 0 e1
      rw [e] at e2
      exact hbad _ _ w' (Lib.hid hx) h2 (Lib.hid ⟨_, _, _, _, e2⟩)
theorem Pn.eat_level : Pn.Eat Pn.level := Pn.Eat.after Pn.shr_atO (fun at_ => Pn.Eat.bind (Pn.eat_must Pn.wLevel) (fun _ => Pn.eat_name.shr.bind (fun nm => (Pn.eat_must Pn.wHeight).shr.bind (fun _ => Pn.eat_num.shr.bind (fun h => (Pn.eat_must Pn.cOpen).shr.bind (fun _ => (Pn.shr_braced Pn.eat_item.shr).bind (fun its => Pn.Shr.pure _)))))))
theorem level_two {w : World} {b en : Nat} {l : List Tk} (HP : Hid (Pp w b l en)) (B : Nat) (hB : B ≤ w.heap.size) {R : Ending → World → Prop}
    (hok : ∀ (x : Pn.Lv) (s1 s2 s3 s4 s5 : Option Addr × Nat × Nat) (r : List Tk) (w' : World), Hid (Pn.level l = .ok x r) → Hid (Pp w' b r en) → Hid (Chg [b] w w') → Hid (LvL B x (.slice s1.1 s1.2.1 s1.2.2) (.slice s2.1 s2.2.1 s2.2.2) (.slice s3.1 s3.2.1 s3.2.2) (.slice s4.1 s4.2.1 s4.2.2) (.slice s5.1 s5.2.1 s5.2.2) w') → R (.returned (.agg #[.string ⟨x.name.toArray⟩, .int .i64 (x.height : Nat), .slice s1.1 s1.2.1 s1.2.2, .slice s2.1 s2.2.1 s2.2.2, .slice s3.1 s3.2.1 s3.2.2, .slice s4.1 s4.2.1 s4.2.2, .slice s5.1 s5.2.1 s5.2.2, .int .i64 (x.at_ : Nat)])) w')
    (hbad : ∀ (c : Nat) (r : List Tk) (w' : World), Hid (Pn.level l = .bad c r) → Hid (Chg [b] w w') → R (.panicked [{ v := flt c r en, recovered := false }]) w') :
    Calls Tryd.prog 23 #[.pointer (some ⟨b, 0, none⟩)] w R :=
  (level_spec w b en l HP).mono fun e w' h => pres_two h (fun x r v h1 h2 h3 h4 => by
    obtain ⟨u1, u2, u3, u4, u5, rfl, h5⟩ := h4
    obtain ⟨a1, c1, rfl⟩ := h5.1.form
    obtain ⟨a2, c2, rfl⟩ := h5.2.1.form
    obtain ⟨a3, c3, rfl⟩ := h5.2.2.1.form
    obtain ⟨a4, c4, rfl⟩ := h5.2.2.2.1.form
    obtain ⟨a5, c5, rfl⟩ := h5.2.2.2.2.form
    exact hok x (a1, _, c1) (a2, _, c2) (a3, _, c3) (a4, _, c4) (a5, _, c5) r w' h1 h2 h3 (Lib.hid (h5.mono hB))) (fun c r h1 h2 => hbad c r w' h1 h2)
end Go.Proofs.YtocadlcglgpdcaaDoor

