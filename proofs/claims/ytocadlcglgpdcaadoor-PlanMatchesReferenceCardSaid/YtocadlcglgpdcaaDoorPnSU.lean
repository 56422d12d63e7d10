/-
 PnS, PnT, PnU in one text.
-/
import Derived.Test.YtocadlcglgpdcaaDoorPnPR
import Derived.Defers
import Derived.Test.YtocadlcglgpdcaaDoorLxJ
namespace Go.Proofs.YtocadlcglgpdcaaDoor
set_option linter.unusedVariables false
set_option linter.unusedSimpArgs false
open Go Go.RowKit Go.Shelf
open Lx (Tk)
open Pn (nums num num2 setL)
set_option maxHeartbeats 1000000 in
set_option maxRecDepth 100000 in
theorem numbers_gen {w : World} {b en : Nat} {l : List Tk} (HP : Hid (Pp w b l en)) {g D : Nat} {T : TypeId} {cs : List Value} (offs : List Nat) (HG : Hid (Blk w g (offs.map (fun o => .pointer (some ⟨D, o, none⟩))) 73)) (HD : Hid (Blk w D cs T))
 (HO : Hid (∀ o ∈ offs, o < cs.length)) (HN : Hid (D ≠ b ∧ g ≠ b ∧ g ≠ D ∧ offs.length ≤ 4)) (HKP : Hid (∀ (w1 : World) (l' : List Tk) (os ns : List Nat) (o n : Nat), o ∈ offs → (∀ z ∈ os, z ∈ offs) → Pp w1 b l' en → Blk w1 D (setL cs os ns) T → Pp (w1.setCell ⟨D, o, none⟩ (.int .i64 (n : Nat))) b l' en)) {R : Ending → World → Prop}
 (hok : ∀ (ns : List Nat) (r : List Tk) (w' : World), Hid (nums offs.length l = .ok ns r) → Hid (ns.length = offs.length) → Hid (Pp w' b r en) → Hid (Blk w' D (setL cs offs ns) T) → Hid (Chg [b, D] w w') → R (.returned (.tuple #[])) w')
 (hbad : ∀ (c : Nat) (r : List Tk) (w' : World), Hid (nums offs.length l = .bad c r) → Hid (Chg [b, D] w w') → Hid (∃ os zs, (∀ z ∈ os, z ∈ offs) ∧ Blk w' D (setL cs os zs) T) → R (.panicked [{ v := flt c r en, recovered := false }]) w') :
 Calls Tryd.prog 21 #[.pointer (some ⟨b, 0, none⟩), .slice (some ⟨g, 0, none⟩) offs.length offs.length] w R := by
 refine (show Calls Tryd.prog 21 #[.pointer (some ⟨b, 0, none⟩), .slice (some ⟨g, 0, none⟩) offs.length offs.length] w (fun e w' => (∃ ns r, e = .returned (.tuple #[]) ∧ nums offs.length l = .ok ns r ∧ Pp w' b r en ∧ Blk w' D (setL cs offs ns) T ∧ Chg [b, D] w w') ∨ (∃ c r, e = .panicked [{ v := flt c r en, recovered := false }] ∧ nums offs.length l = .bad c r ∧ Chg [b, D] w w' ∧ (∃ os zs, (∀ z ∈ os, z ∈ offs) ∧ Blk w' D (setL cs os zs) T))) from ?_).mono (fun e w' hx => by
  rcases hx with ⟨ns, r, rfl, h1, h2, h3, h4⟩ | ⟨c, r, rfl, h1, h2, h3⟩
  · exact hok ns r w' (hd h1) (hd (Pn.nums_len _ _ _ _ h1)) (hd h2) (hd h3) (hd h4)
  · exact hbad c r w' (hd h1) (hd h2) (hd h3))
 clear hok hbad
 obtain ⟨n, hn⟩ : ∃ n, offs.length = n := ⟨_, rfl⟩
 have HNN := hd hn
 rw [hn]
 have hn4 : n ≤ 4 := by have := HN.out.2.2.2; omega
 clear hn
 go_enter Tryd.func21, Tryd.ntmps21
 go_wp2_with fail
 go_loopw [8] (fun i wr => ∃ (j : Nat) (ns : List Nat) (r : List Tk), i = .int .i64 (j : Int) ∧ j ≤ n ∧ Hid (nums j l = .ok ns r ∧ ns.length = j) ∧ Hid (Pp wr b r en) ∧ Hid (Blk wr D (setL cs (offs.take j) ns) T) ∧ Hid (Chg [b, D] w wr)) (fun i _ => n - (intOf i).toNat)
 case atStart => exact ⟨0, [], l, rfl, Nat.zero_le _, hd ⟨rfl, rfl⟩, HP, hd (by rw [Pn.setL_nil]; exact HD.out), hd (Chg.refl _ _)⟩
 case round =>
  obtain ⟨j, ns, r, rfl, hj, HNS, HPr, HDr, HC⟩ := hrel
  by_cases hlt : j < n
  · obtain ⟨o, ho⟩ : ∃ o, offs[j]? = some o := ⟨offs[j]'(by rw [HNN.out]; exact hlt), by simp⟩
    have HOJ := hd ho
    have hg : wr.cell? ⟨g, j, none⟩ = some (.pointer (some ⟨D, o, none⟩)) := (HC.out.blk HG.out (by simp; exact ⟨HN.out.2.1, HN.out.2.2.1⟩)).cell (by rw [List.getElem?_map, ho]; rfl)
    have hol : o < (setL cs (offs.take j) ns).length := by rw [Pn.setL_len]; exact HO.out o (List.mem_of_getElem? ho)
    obtain ⟨vo, hvo⟩ : ∃ v, (setL cs (offs.take j) ns)[o]? = some v := ⟨(setL cs (offs.take j) ns)[o], List.getElem?_eq_getElem hol⟩
    have HVO := hd hvo
    clear ho hol hvo
    have q0 : (0 : Int) ≤ (j : Int) := by omega
    have q1 : (j : Int) < (n : Int) := by omega
    have q2 : ((j : Int)).toNat = j := by omega
    go_wp2_with fail
    refine take_two HPr 2 (fun t q w1 HT HP1 HC1 => ?_) (fun c q w1 HT HC1 => ?_)
    · have hD1 : Hid (Blk w1 D (setL cs (offs.take j) ns) T) := hd (HC1.out.blk HDr.out (by simp; exact HN.out.1))
      have u0 := hD1.out.cell HVO.out
      have u1 := hD1.out.free o
      have hf := fun W => field_n (.int .i64 (t.kind : Nat)) (.string ⟨t.text.toArray⟩) (.int .i64 (t.n : Nat)) (.int .i64 (t.at_ : Nat)) W
      go_wp2_with fail
      refine ⟨?_, by simp [intOf]; omega⟩
      have hc : Chg [b, D] wr (w1.setCell ⟨D, o, none⟩ (.int .i64 (t.n : Nat))) := (HC1.out.mono (by simp)).setCell _ _ (.inl (by simp))
      have HNS1 : Hid (nums (j + 1) l = .ok (ns ++ [t.n]) q ∧ (ns ++ [t.n]).length = j + 1) := hd ⟨by unfold nums; rw [HNS.out.1]; simp only [Rl.Out.bind]; unfold num; rw [HT.out]; rfl, by rw [List.length_append, HNS.out.2]; rfl⟩
      have HP2 : Hid (Pp (w1.setCell ⟨D, o, none⟩ (.int .i64 (t.n : Nat))) b q en) := hd (HKP.out w1 q (offs.take j) ns o t.n (List.mem_of_getElem? HOJ.out) (fun z hz => List.mem_of_mem_take hz) HP1.out hD1.out)
      have HD2 : Hid (Blk (w1.setCell ⟨D, o, none⟩ (.int .i64 (t.n : Nat))) D (setL cs (offs.take (j + 1)) (ns ++ [t.n])) T) := hd (by
       have e : offs.take (j + 1) = offs.take j ++ [o] := by rw [List.take_add_one, HOJ.out]; rfl
       rw [e, Pn.setL_snoc _ _ _ _ _ (by rw [List.length_take, HNN.out, HNS.out.2]; omega)]
       exact hD1.out.set o _)
      have HC2 : Hid (Chg [b, D] w (w1.setCell ⟨D, o, none⟩ (.int .i64 (t.n : Nat)))) := hd (HC.out.trans hc (fun k hk => .inl hk))
      have hjj : Value.int IntKind.i64 ((j : Int) + 1) = .int .i64 ((j + 1 : Nat) : Int) := rfl
      first | exact ⟨j + 1, ns ++ [t.n], q, hjj, by omega, HNS1, HP2, HD2, HC2⟩ | ((repeat apply Exists.intro); exact ⟨⟨j + 1, ns ++ [t.n], q, hjj, by omega, HNS1, HP2, HD2, HC2⟩, rfl⟩)
    · have hbadn : nums n l = .bad c q := by
       have h1 : nums (j + 1) l = .bad c q := by
        unfold nums
        rw [HNS.out.1]
        simp only [Rl.Out.bind]
        unfold num
        rw [HT.out]
        rfl
       have h2 : ∀ d, nums (j + 1 + d) l = .bad c q := by
        intro d
        induction d with
        | zero => exact h1
        | succ d ih =>
         show (nums (j + 1 + d) l).bind _ = _
         rw [ih]
         rfl
       have := h2 (n - (j + 1))
       rw [show j + 1 + (n - (j + 1)) = n by omega] at this
       exact this
      have HBN := hd hbadn
      clear hbadn
      go_wp2_with fail
      have hcf : Chg [b, D] w w1 := HC.out.trans (HC1.out.mono (own1 := [b, D]) (by simp)) (fun k hk => .inl hk)
      have hex : ∃ os zs, (∀ z ∈ os, z ∈ offs) ∧ Blk w1 D (setL cs os zs) T := ⟨offs.take j, ns, fun z hz => List.mem_of_mem_take hz, HC1.out.blk HDr.out (by simp; exact HN.out.1)⟩
      first | exact ⟨rfl, .inr ⟨c, q, rfl, HBN.out, hcf, hex⟩⟩ | exact ⟨rfl, .inr ⟨c, q, HBN.out, rfl, hcf, hex⟩⟩
  · have q1 : ¬ (j : Int) < (n : Int) := by omega
    obtain rfl : j = n := by omega
    go_wp2_with fail
    refine bodyPost_end (results_none rfl _ _ _) rfl ?_
    have hd := HDr.out
    rw [List.take_of_length_le (by rw [HNN.out]; exact Nat.le_refl _)] at hd
    first | exact .inl ⟨ns, r, rfl, HNS.out.1, HPr.out, hd, HC.out⟩ | exact .inl ⟨rfl, ns, r, HNS.out.1, HPr.out, hd, HC.out⟩
/-- Tokens do not lie in a block of a string, two numbers and a slice. -/
theorem Pp.hall {w w' : World} {b en k : Nat} {l : List Tk} {a : ByteArray} {x y : Int} {p : Option Addr} {n c : Nat} {E : TypeId} (h : Pp w b l en) (hk : Blk w k [.string a, .int .i64 x, .int .i64 y, .slice p n c] E) (hne : k ≠ b) (hc : Chg [k] w w') : Pp w' b l en := by
 obtain ⟨L, i, ao, cap, e1, e2, e3, k1, k2, k3⟩ := h
 refine ⟨L, i, ao, cap, e1, e2, e3, hc.blk k1 (by simpa using hne.symm), ?_, k3⟩
 obtain ⟨ao', cap', j1, j2, j3⟩ := k2
 cases j1
 refine ⟨ao, cap, rfl, j2, fun j t ht => ?_⟩
 obtain ⟨g, off, j4, j5, j6, j7, j8⟩ := j3 j t ht
 have hg0 : g ≠ k := fun e => by
  subst e
  unfold Blk at hk
  rw [cell_of_row w g _ _ E (0, 0) hk] at j6
  obtain ⟨z, hz⟩ : ∃ z, off + 4 * j = z := ⟨_, rfl⟩
  rw [hz] at j6
  match z, j6 with
  | 0, j6 => simp at j6
  | 1, j6 => simp at j6
  | 2, j6 => simp at j6
  | z + 3, j6 => simp at j6
 have hg : w'.heap[g]? = w.heap[g]? := hc.block g (World.block_lt_of_cell? _ _ j5) (by simpa using hg0)
 exact ⟨g, off, j4, (World.cell?_of_block (a := ⟨g, off + 4 * j, none⟩) hg).trans j5, (World.cell?_of_block (a := ⟨g, off + 4 * j + 1, none⟩) hg).trans j6, (World.cell?_of_block (a := ⟨g, off + 4 * j + 2, none⟩) hg).trans j7, (World.cell?_of_block (a := ⟨g, off + 4 * j + 3, none⟩) hg).trans j8⟩
/-- The stage's two numbers, read into the hall. -/
theorem stage_two {w : World} {b en : Nat} {l : List Tk} (HP : Hid (Pp w b l en)) {g D : Nat} {a : ByteArray} {p : Option Addr} {n c : Nat} (HG : Hid (Blk w g [.pointer (some ⟨D, 1, none⟩), .pointer (some ⟨D, 2, none⟩)] 73)) (HD : Hid (Blk w D [.string a, .int .i64 0, .int .i64 0, .slice p n c] 27)) (HN : Hid (D ≠ b ∧ g ≠ b ∧ g ≠ D)) {R : Ending → World → Prop}
 (hok : ∀ (x y : Nat) (r : List Tk) (w' : World), Hid (num2 l = .ok (x, y) r) → Hid (Pp w' b r en) → Hid (Blk w' D [.string a, .int .i64 (x : Nat), .int .i64 (y : Nat), .slice p n c] 27) → Hid (Chg [b, D] w w') → R (.returned (.tuple #[])) w')
 (hbad : ∀ (c : Nat) (r : List Tk) (w' : World), Hid (num2 l = .bad c r) → Hid (Chg [b, D] w w') → Hid (∃ z0 z1 z2 z3, Blk w' D [z0, z1, z2, z3] 27) → R (.panicked [{ v := flt c r en, recovered := false }]) w') :
 Calls Tryd.prog 21 #[.pointer (some ⟨b, 0, none⟩), .slice (some ⟨g, 0, none⟩) 2 2] w R := by
 have key : ∀ (os ns : List Nat) (x y : Int), (∀ z ∈ os, z ∈ [1, 2]) → ∃ x' y' : Int, setL [.string a, .int .i64 x, .int .i64 y, .slice p n c] os ns = [.string a, .int .i64 x', .int .i64 y', .slice p n c] := by
  intro os
  induction os with
  | nil => intro ns x y _; exact ⟨x, y, by cases ns <;> rfl⟩
  | cons z os ih =>
   intro ns x y hz
   cases ns with
   | nil => exact ⟨x, y, rfl⟩
   | cons m ns =>
    have h1 := hz z (by simp)
    simp only [List.mem_cons, List.not_mem_nil, or_false] at h1
    rcases h1 with rfl | rfl
    · exact ih ns (m : Int) y (fun q hq => hz q (by simp [hq]))
    · exact ih ns x (m : Int) (fun q hq => hz q (by simp [hq]))
 have hkp : ∀ (w1 : World) (l' : List Tk) (os ns : List Nat) (o n' : Nat), o ∈ [1, 2] → (∀ z ∈ os, z ∈ [1, 2]) → Pp w1 b l' en → Blk w1 D (setL [.string a, .int .i64 0, .int .i64 0, .slice p n c] os ns) 27 → Pp (w1.setCell ⟨D, o, none⟩ (.int .i64 (n' : Nat))) b l' en := by
  intro w1 l' os ns o n' ho hos hp hb
  obtain ⟨x', y', e⟩ := key os ns 0 0 hos
  rw [e] at hb
  exact hp.hall hb HN.out.1 ((Chg.refl _ _).setCell _ _ (.inl (by simp)))
 refine numbers_gen HP [1, 2] HG HD (hd (by simp)) (hd ⟨HN.out.1, HN.out.2.1, HN.out.2.2, by simp⟩) (hd hkp) (fun ns r w' h1 h2 h3 h4 h5 => ?_) (fun c r w' h1 h2 h3 => ?_)
 · have h := h1.out
   rw [show ([1, 2] : List Nat).length = 2 from rfl, Pn.nums2_eq] at h
   cases hx : num2 l with
   | bad c q => rw [hx] at h; cases h
   | ok x q =>
    rw [hx] at h
    simp only [Rl.Out.bind, Rl.Out.ok.injEq] at h
    obtain ⟨rfl, rfl⟩ := h
    exact hok x.1 x.2 q w' (hd hx) h3 h4 h5
 · have h := h1.out
   rw [show ([1, 2] : List Nat).length = 2 from rfl, Pn.nums2_eq] at h
   cases hx : num2 l with
   | ok x q => rw [hx] at h; cases h
   | bad c' q =>
    rw [hx] at h
    simp only [Rl.Out.bind, Rl.Out.bad.injEq] at h
    obtain ⟨rfl, rfl⟩ := h
    obtain ⟨os, zs, e1, e2⟩ := h3.out
    obtain ⟨x', y', e⟩ := key os zs 0 0 e1
    rw [e] at e2
    exact hbad _ _ w' (hd hx) h2 (hd ⟨_, _, _, _, e2⟩)
theorem Pn.eat_level : Pn.Eat Pn.level := Pn.Eat.after Pn.shr_atO (fun at_ => Pn.Eat.bind (Pn.eat_must Pn.wLevel) (fun _ => Pn.eat_name.shr.bind (fun nm => (Pn.eat_must Pn.wHeight).shr.bind (fun _ => Pn.eat_num.shr.bind (fun h => (Pn.eat_must Pn.cOpen).shr.bind (fun _ => (Pn.shr_braced Pn.eat_item.shr).bind (fun its => Pn.Shr.pure _)))))))
theorem level_two {w : World} {b en : Nat} {l : List Tk} (HP : Hid (Pp w b l en)) (B : Nat) (hB : B ≤ w.heap.size) {R : Ending → World → Prop}
 (hok : ∀ (x : Pn.Lv) (s1 s2 s3 s4 s5 : Option Addr × Nat × Nat) (r : List Tk) (w' : World), Hid (Pn.level l = .ok x r) → Hid (Pp w' b r en) → Hid (Chg [b] w w') → Hid (LvL B x (.slice s1.1 s1.2.1 s1.2.2) (.slice s2.1 s2.2.1 s2.2.2) (.slice s3.1 s3.2.1 s3.2.2) (.slice s4.1 s4.2.1 s4.2.2) (.slice s5.1 s5.2.1 s5.2.2) w') → R (.returned (.agg #[.string ⟨x.name.toArray⟩, .int .i64 (x.height : Nat), .slice s1.1 s1.2.1 s1.2.2, .slice s2.1 s2.2.1 s2.2.2, .slice s3.1 s3.2.1 s3.2.2, .slice s4.1 s4.2.1 s4.2.2, .slice s5.1 s5.2.1 s5.2.2, .int .i64 (x.at_ : Nat)])) w')
 (hbad : ∀ (c : Nat) (r : List Tk) (w' : World), Hid (Pn.level l = .bad c r) → Hid (Chg [b] w w') → R (.panicked [{ v := flt c r en, recovered := false }]) w') :
 Calls Tryd.prog 23 #[.pointer (some ⟨b, 0, none⟩)] w R :=
 (level_spec w b en l HP).mono fun e w' h => pres_two h (fun x r v h1 h2 h3 h4 => by
  obtain ⟨u1, u2, u3, u4, u5, rfl, h5⟩ := h4
  obtain ⟨a1, c1, rfl⟩ := h5.1.form
  obtain ⟨a2, c2, rfl⟩ := h5.2.1.form
  obtain ⟨a3, c3, rfl⟩ := h5.2.2.1.form
  obtain ⟨a4, c4, rfl⟩ := h5.2.2.2.1.form
  obtain ⟨a5, c5, rfl⟩ := h5.2.2.2.2.form
  exact hok x (a1, _, c1) (a2, _, c2) (a3, _, c3) (a4, _, c4) (a5, _, c5) r w' h1 h2 h3 (hd (h5.mono hB))) (fun c r h1 h2 => hbad c r w' h1 h2)
end Go.Proofs.YtocadlcglgpdcaaDoor

namespace Go.Proofs.YtocadlcglgpdcaaDoor
set_option linter.unusedVariables false
set_option linter.unusedSimpArgs false
open Go Go.RowKit Go.Shelf
open Lx (Tk)
attribute [local go_sem ↓] Go.wp_at_zero Go.wp_at_succ
attribute [local irreducible] Go.wpStill

theorem leaves_frame {P : Program} {fn : Func} {t t' : Array Value} {R : Ending → World → Prop} (h : results fn t' = results fn t) : ∀ (ds : List Deferred) (u : FrameMode) (w : World), Leaves P fn t' R ds u w → Leaves P fn t R ds u w
 | [], .returning, w, ⟨v, h1, h2⟩ => ⟨v, by rw [← h]; exact h1, h2⟩
 | [], .panicking c, w, hh => hh
 | [], .run, w, hh => hh
 | d :: ds, u, w, ⟨hu, fv, cap, f, args, h1, h2, h3⟩ => ⟨hu, fv, cap, f, args, h1, h2, h3.mono (by
  intro e u' w' hh
  cases e with
  | returned v => exact leaves_frame h ds _ _ hh
  | panicked c => exact leaves_frame h ds _ _ hh
  | outgrown => exact hh)⟩
theorem res10 (t : Array Value) (i : Nat) (v : Value) (h2 : i ≠ 2) (h3 : i ≠ 3) (h4 : i ≠ 4) : results Tryd.f10 (t.setIfInBounds i v) = results Tryd.f10 t := by
 simp [results, Tryd.results10]
 rw [Array.getElem?_setIfInBounds_ne h2, Array.getElem?_setIfInBounds_ne h3, Array.getElem?_setIfInBounds_ne h4]
theorem hq10 {P : Program} {R : Ending → World → Prop} (i : Nat) (h2 : i ≠ 2) (h3 : i ≠ 3) (h4 : i ≠ 4) (v : Value) (c : List PanicEntry) (a : Act) (w : World) (h : bodyPostD P Tryd.f10 R (.panic c) (a.put (some i) v) w) : bodyPostD P Tryd.f10 R (.panic c) a w :=
 leaves_frame (res10 a.tmps i v h2 h3 h4) _ _ _ h
/-- The door behind a panic of the parser. -/
theorem door_pan {tmps : Array Value} {R : Ending → World → Prop} {b2 b3 b4 c p : Nat} {y0 y1 y2 y3 : Value} {v3 v4 : Int} {w : World} (t2 : tmps.getD 2 undef = .pointer (some ⟨b2, 0, none⟩)) (t3 : tmps.getD 3 undef = .pointer (some ⟨b3, 0, none⟩)) (t4 : tmps.getD 4 undef = .pointer (some ⟨b4, 0, none⟩))
 (h2 : Blk w b2 [y0, y1, y2, y3] 27) (h3 : Blk w b3 [.int .i64 v3] 28) (h4 : Blk w b4 [.int .i64 v4] 3) (hn : b2 < b3 ∧ b3 < b4)
 (hR : ∀ w', Chg [b2, b3, b4] w w' → R (.returned (.tuple #[.agg #[.string ⟨#[]⟩, .int .i64 0, .int .i64 0, .slice none 0 0], .int .i64 (c : Int), .int .i64 (p : Int)])) w') :
 Leaves Tryd.prog Tryd.f10 tmps R [{ target := .fn (.func 18) #[.pointer (some ⟨b2, 0, none⟩), .pointer (some ⟨b3, 0, none⟩), .pointer (some ⟨b4, 0, none⟩)], args := #[] }] (.panicking [{ v := .iface 66 (.agg #[.int .i64 (c : Int), .int .i64 (p : Int)]), recovered := false }]) w := by
 refine leaves_cons (f := 18) (args := #[.pointer (some ⟨b2, 0, none⟩), .pointer (some ⟨b3, 0, none⟩), .pointer (some ⟨b4, 0, none⟩)]) (by simp) (by simp [go_sem]) ?_
 refine (catch_pan b2 b3 b4 c p w y0 y1 y2 y3 v3 v4 h2 h3 h4 hn []).mono ?_
 rintro e u' w' ⟨rfl, rfl, k2, k3, k4, hc⟩
 have c20 := k2.cell (i := 0) rfl
 have c21 := k2.cell (i := 1) rfl
 have c22 := k2.cell (i := 2) rfl
 have c23 := k2.cell (i := 3) rfl
 have c3 := k3.cell (i := 0) rfl
 have c4 := k4.cell (i := 0) rfl
 have hs : settle (.panicking [{ v := .iface 66 (.agg #[.int .i64 (c : Int), .int .i64 (p : Int)]), recovered := true }]) = .returning := by simp [settle]
 show Leaves _ _ _ _ [] (settle _) w'
 rw [hs]
 refine ⟨.tuple #[.agg #[.string ⟨#[]⟩, .int .i64 0, .int .i64 0, .slice none 0 0], .int .i64 (c : Int), .int .i64 (p : Int)], ?_, hR w' hc⟩
 rw [Array.getD_eq_getD_getElem?] at t2 t3 t4
 simp [results, Tryd.results10, go_sem, t2, t3, t4, c20, c21, c22, c23, c3, c4]
theorem door_ret {tmps : Array Value} {R : Ending → World → Prop} {b2 b3 b4 : Nat} {y0 y1 y2 y3 : Value} {v3 v4 : Int} {w : World} (t2 : tmps.getD 2 undef = .pointer (some ⟨b2, 0, none⟩)) (t3 : tmps.getD 3 undef = .pointer (some ⟨b3, 0, none⟩)) (t4 : tmps.getD 4 undef = .pointer (some ⟨b4, 0, none⟩))
 (h2 : Blk w b2 [y0, y1, y2, y3] 27) (h3 : Blk w b3 [.int .i64 v3] 28) (h4 : Blk w b4 [.int .i64 v4] 3) (hR : R (.returned (.tuple #[.agg #[y0, y1, y2, y3], .int .i64 v3, .int .i64 v4])) w) :
 Leaves Tryd.prog Tryd.f10 tmps R [{ target := .fn (.func 18) #[.pointer (some ⟨b2, 0, none⟩), .pointer (some ⟨b3, 0, none⟩), .pointer (some ⟨b4, 0, none⟩)], args := #[] }] .returning w := by
 refine leaves_cons (f := 18) (args := #[.pointer (some ⟨b2, 0, none⟩), .pointer (some ⟨b3, 0, none⟩), .pointer (some ⟨b4, 0, none⟩)]) (by simp) (by simp [go_sem]) ?_
 refine (catch_idle b2 b3 b4 w).mono ?_
 rintro e u' w' ⟨rfl, rfl, rfl⟩
 have c20 := h2.cell (i := 0) rfl
 have c21 := h2.cell (i := 1) rfl
 have c22 := h2.cell (i := 2) rfl
 have c23 := h2.cell (i := 3) rfl
 have c3 := h3.cell (i := 0) rfl
 have c4 := h4.cell (i := 0) rfl
 refine ⟨.tuple #[.agg #[y0, y1, y2, y3], .int .i64 v3, .int .i64 v4], ?_, hR⟩
 rw [Array.getD_eq_getD_getElem?] at t2 t3 t4
 simp [results, Tryd.results10, go_sem, t2, t3, t4, c20, c21, c22, c23, c3, c4]
/-- What Parse hands back. -/
def Parsed (w : World) (o : Pn.Hl × Nat × Int) (e : Ending) (w' : World) : Prop := ∃ v, e = .returned (.tuple #[.agg #[.string ⟨o.1.name.toArray⟩, .int .i64 (o.1.sx : Nat), .int .i64 (o.1.sy : Nat), v], .int .i64 (o.2.1 : Nat), .int .i64 o.2.2]) ∧ ListS w.heap.size 47 8 (Clv w.heap.size) o.1.levels v w' ∧ Chg [] w w'
end Go.Proofs.YtocadlcglgpdcaaDoor
namespace Go.Proofs.YtocadlcglgpdcaaDoor
set_option linter.unusedVariables false
set_option linter.unusedSimpArgs false
open Go Go.RowKit Go.Shelf
open Lx (Tk)

theorem TokS.frm {w : World} {v : Value} {l : List Tk} (h : TokS w v l) : ∃ ao cap, v = .slice ao l.length cap := by
 obtain ⟨ao, cap, h1, _⟩ := h
 exact ⟨ao, cap, h1⟩
theorem toks_lt {w : World} {ao : Option Addr} {m cap : Nat} {l : List Tk} (h : TokS w (.slice ao m cap) l) (hne : l ≠ []) : ∃ g off, ao = some ⟨g, off, none⟩ ∧ g < w.heap.size := by
 obtain ⟨ao', cap', he, _, h3⟩ := h
 cases he
 cases l with
 | nil => exact absurd rfl hne
 | cons t r =>
  obtain ⟨g, off, h4, h5, _⟩ := h3 0 t rfl
  exact ⟨g, off, h4, World.block_lt_of_cell? _ _ h5⟩
/-- Tokens stay when boxes of one cell are written. -/
theorem toks_apart {w w' : World} {v : Value} {l : List Tk} {own : List Nat} (h : TokS w v l) (hc : Chg own w w') (ho : ∀ k ∈ own, ∃ x e, Blk w k [x] e) : TokS w' v l := by
 obtain ⟨ao, cap, rfl, h2, h3⟩ := h
 refine ⟨ao, cap, rfl, h2, fun i t ht => ?_⟩
 obtain ⟨g, off, h4, h5, h6, h7, h8⟩ := h3 i t ht
 have hno : g ∉ own := fun hm => by
  obtain ⟨x, e, hb⟩ := ho g hm
  unfold Blk at hb
  rw [cell_of_row w g _ _ e (0, 0) hb] at h6
  simp at h6
 have hg := hc.block g (World.block_lt_of_cell? _ _ h5) hno
 exact ⟨g, off, h4, (World.cell?_of_block (a := ⟨g, off + 4 * i, none⟩) hg).trans h5, (World.cell?_of_block (a := ⟨g, off + 4 * i + 1, none⟩) hg).trans h6, (World.cell?_of_block (a := ⟨g, off + 4 * i + 2, none⟩) hg).trans h7, (World.cell?_of_block (a := ⟨g, off + 4 * i + 3, none⟩) hg).trans h8⟩
theorem Lx.fin_len : ∀ (l : List (Tk × Nat)) (k : Nat) (out : List Tk), k ≤ 5000 → (Lx.fin k out l).1.length ≤ out.length + (5000 - k)
 | [], k, out, h => by simp [Lx.fin]
 | (t, e) :: r, k, out, h => by
  unfold Lx.fin
  split
  · simp
  · split
    · simp
    · have := Lx.fin_len r (k + 1) (out ++ [t]) (by omega)
      simp only [List.length_append, List.length_singleton] at this
      omega
theorem Lx.lex_len (s : Bytes) : (Lx.lex s).1.length ≤ 5000 := by
 unfold Lx.lex
 split
 · simp
 · simpa using Lx.fin_len (Lx.scan s.length 0 s) 0 [] (by omega)
/-- What Parse has at hand between two calls: its three results, the parser, and what has changed. -/
def Hs (w w3 wr : World) (b2 b3 b4 pb en er : Nat) (at9 : Int) (cs : List Value) (q : List Tk) : Prop :=
 Blk wr b2 cs 27 ∧ Blk wr b3 [.int .i64 (er : Nat)] 28 ∧ Blk wr b4 [.int .i64 at9] 3 ∧ Pp wr pb q en ∧ Chg [] w wr ∧ Chg [pb, b2] w3 wr ∧ (b2 = w.heap.size ∧ b3 = w.heap.size + 1 ∧ b4 = w.heap.size + 2 ∧ b4 < pb ∧ w3.heap.size = pb + 1)
theorem Hs.call {w w3 wr w' : World} {b2 b3 b4 pb en er : Nat} {at9 : Int} {cs : List Value} {q r : List Tk} (h : Hs w w3 wr b2 b3 b4 pb en er at9 cs q) (hp : Pp w' pb r en) (hc : Chg [pb] wr w') : Hs w w3 w' b2 b3 b4 pb en er at9 cs r := by
 obtain ⟨h1, h2, h3, h4, h5, h6, h7⟩ := h
 refine ⟨hc.blk h1 (by simp; omega), hc.blk h2 (by simp; omega), hc.blk h3 (by simp; omega), hp, h5.trans hc (fun k hk => .inr (by simp at hk; omega)), h6.trans hc (fun k hk => .inl (by simp at hk; simp [hk])), h7⟩
/-- What draws nothing of its own leaves all. -/
theorem Hs.quiet {w w3 wr w' : World} {b2 b3 b4 pb en er : Nat} {at9 : Int} {cs : List Value} {q : List Tk} (h : Hs w w3 wr b2 b3 b4 pb en er at9 cs q) (hc : Chg [] wr w') : Hs w w3 w' b2 b3 b4 pb en er at9 cs q :=
 h.call (h.2.2.2.1.quiet hc) (hc.mono (by simp))
/-- A write to the hall. -/
theorem Hs.put {w w3 wr : World} {b2 b3 b4 pb en er : Nat} {at9 : Int} {a : ByteArray} {x y : Int} {p : Option Addr} {n c : Nat} {q : List Tk} (h : Hs w w3 wr b2 b3 b4 pb en er at9 [.string a, .int .i64 x, .int .i64 y, .slice p n c] q) (i : Nat) (v : Value) : Hs w w3 (wr.setCell ⟨b2, i, none⟩ v) b2 b3 b4 pb en er at9 ([.string a, .int .i64 x, .int .i64 y, .slice p n c].set i v) q := by
 obtain ⟨h1, h2, h3, h4, h5, h6, h7⟩ := h
 exact ⟨h1.set i v, h2.other _ _ (show b3 ≠ b2 by omega), h3.other _ _ (show b4 ≠ b2 by omega), h4.hall h1 (by omega) ((Chg.refl _ _).setCell _ _ (.inl (by simp))), h5.setCell _ _ (.inr (by show _ ≤ b2; omega)), h6.setCell _ _ (.inl (by simp)), h7⟩
/-- The two numbers of the stage are read into the hall. -/
theorem Hs.stage {w w3 wr w' : World} {b2 b3 b4 pb en er : Nat} {at9 : Int} {cs cs' : List Value} {q r : List Tk} (h : Hs w w3 wr b2 b3 b4 pb en er at9 cs q) (hp : Pp w' pb r en) (hb : Blk w' b2 cs' 27) (hc : Chg [pb, b2] wr w') : Hs w w3 w' b2 b3 b4 pb en er at9 cs' r := by
 obtain ⟨h1, h2, h3, h4, h5, h6, h7⟩ := h
 refine ⟨hb, hc.blk h2 (by simp; omega), hc.blk h3 (by simp; omega), hp, h5.trans hc (fun k hk => .inr (by simp at hk; omega)), h6.trans hc (fun k hk => .inl hk), h7⟩
theorem Pn.parse_bad {s : Bytes} (h : (Lx.lex s).2.1 = 0) {c : Nat} {r : List Tk} (hi : Pn.hall (Lx.lex s).1 = .bad c r) : Pn.parse s = (Pn.hl0, Rl.code c r, (Rl.place s.length r : Int)) := by
 unfold Pn.parse
 rw [if_neg (by simpa using h), hi]
 rfl
theorem Pn.parse_ok {s : Bytes} (h : (Lx.lex s).2.1 = 0) {x : Pn.Hl} {r : List Tk} (hi : Pn.hall (Lx.lex s).1 = .ok x r) : Pn.parse s = (x, 0, 0) := by
 unfold Pn.parse
 rw [if_neg (by simpa using h), hi]
 rfl
/-- Parse ends in a panic of a part: the door behind it. -/
theorem Hs.pan {tmps : Array Value} {w w3 wr w' : World} {b2 b3 b4 pb er : Nat} {at9 : Int} {y0 y1 y2 y3 : Value} {s : Bytes} {q : List Tk} (h : Hs w w3 wr b2 b3 b4 pb s.length er at9 [y0, y1, y2, y3] q) {own : List Nat} (hc : Chg own wr w') (ho : own = [pb] ∨ own = []) (h0 : (Lx.lex s).2.1 = 0) {c : Nat} {r : List Tk} (hi : Pn.hall (Lx.lex s).1 = .bad c r)
 (t2 : tmps.getD 2 undef = .pointer (some ⟨b2, 0, none⟩)) (t3 : tmps.getD 3 undef = .pointer (some ⟨b3, 0, none⟩)) (t4 : tmps.getD 4 undef = .pointer (some ⟨b4, 0, none⟩)) :
 Leaves Tryd.prog Tryd.f10 tmps (Parsed w (Pn.parse s)) [{ target := .fn (.func 18) #[.pointer (some ⟨b2, 0, none⟩), .pointer (some ⟨b3, 0, none⟩), .pointer (some ⟨b4, 0, none⟩)], args := #[] }] (.panicking [{ v := flt c r s.length, recovered := false }]) w' := by
 have hc1 : Chg [pb] wr w' := by
  rcases ho with rfl | rfl
  · exact hc
  · exact hc.mono (by simp)
 obtain ⟨h1, h2, h3, h4, h5, h6, h7⟩ := h
 refine door_pan t2 t3 t4 (hc1.blk h1 (by simp; omega)) (hc1.blk h2 (by simp; omega)) (hc1.blk h3 (by simp; omega)) (by omega) (fun w5 hc5 => ?_)
 rw [Pn.parse_bad h0 hi]
 exact ⟨.slice none 0 0, rfl, ListS.nil _ _ _ _ _, (h5.trans hc1 (fun k hk => .inr (by simp at hk; omega))).trans hc5 (fun k hk => .inr (by simp at hk; omega))⟩
/-- The same behind the stage's numbers. -/
theorem Hs.pan2 {tmps : Array Value} {w w3 wr w' : World} {b2 b3 b4 pb er : Nat} {at9 : Int} {a : ByteArray} {x y : Int} {p : Option Addr} {n c0 : Nat} {s : Bytes} {q : List Tk} (h : Hs w w3 wr b2 b3 b4 pb s.length er at9 [.string a, .int .i64 x, .int .i64 y, .slice p n c0] q) (hc : Chg [pb, b2] wr w') (hb : ∃ z0 z1 z2 z3, Blk w' b2 [z0, z1, z2, z3] 27) (h0 : (Lx.lex s).2.1 = 0) {c : Nat} {r : List Tk} (hi : Pn.hall (Lx.lex s).1 = .bad c r)
 (t2 : tmps.getD 2 undef = .pointer (some ⟨b2, 0, none⟩)) (t3 : tmps.getD 3 undef = .pointer (some ⟨b3, 0, none⟩)) (t4 : tmps.getD 4 undef = .pointer (some ⟨b4, 0, none⟩)) :
 Leaves Tryd.prog Tryd.f10 tmps (Parsed w (Pn.parse s)) [{ target := .fn (.func 18) #[.pointer (some ⟨b2, 0, none⟩), .pointer (some ⟨b3, 0, none⟩), .pointer (some ⟨b4, 0, none⟩)], args := #[] }] (.panicking [{ v := flt c r s.length, recovered := false }]) w' := by
 obtain ⟨h1, h2, h3, h4, h5, h6, h7⟩ := h
 obtain ⟨z0, z1, z2, z3, hb⟩ := hb
 refine door_pan t2 t3 t4 hb (hc.blk h2 (by simp; omega)) (hc.blk h3 (by simp; omega)) (by omega) (fun w5 hc5 => ?_)
 rw [Pn.parse_bad h0 hi]
 exact ⟨.slice none 0 0, rfl, ListS.nil _ _ _ _ _, (h5.trans hc (fun k hk => .inr (by simp at hk; omega))).trans hc5 (fun k hk => .inr (by simp at hk; omega))⟩
/-- A parser stays, if its cells and what lies below it stay, but for the hall. -/
theorem Pp.via2 {W wo v : World} {b en k : Nat} {l : List Tk} {a : ByteArray} {x y : Int} {p : Option Addr} {n c : Nat} {E : TypeId} (h : Pp wo b l en) (hk : Blk wo k [.string a, .int .i64 x, .int .i64 y, .slice p n c] E) (h1 : Chg [b, k] W wo) (h2 : Chg [b, k] W v) (hB : ∀ ds S, Blk wo b ds S → Blk v b ds S) (hb : b < W.heap.size) : Pp v b l en := by
 obtain ⟨L, i, ao, cap, e1, e2, e3, k1, k2, k3⟩ := h
 refine ⟨L, i, ao, cap, e1, e2, e3, hB _ _ k1, ?_, k3⟩
 obtain ⟨ao', cap', j1, j2, j3⟩ := k2
 cases j1
 refine ⟨ao, cap, rfl, j2, fun j t ht => ?_⟩
 obtain ⟨g, off, j4, j5, j6, j7, j8⟩ := j3 j t ht
 have hgb : g < b := k3 (by rintro rfl; simp at ht) _ j4
 have hg0 : g ≠ k := fun e => by
  subst e
  unfold Blk at hk
  rw [cell_of_row wo g _ _ E (0, 0) hk] at j6
  obtain ⟨z, hz⟩ : ∃ z, off + 4 * j = z := ⟨_, rfl⟩
  rw [hz] at j6
  match z, j6 with
  | 0, j6 => simp at j6
  | 1, j6 => simp at j6
  | 2, j6 => simp at j6
  | z + 3, j6 => simp at j6
 have hno : g ∉ [b, k] := by simp; omega
 have hg : v.heap[g]? = wo.heap[g]? := (h2.block g (by omega) hno).trans (h1.block g (by omega) hno).symm
 exact ⟨g, off, j4, (World.cell?_of_block (a := ⟨g, off + 4 * j, none⟩) hg).trans j5, (World.cell?_of_block (a := ⟨g, off + 4 * j + 1, none⟩) hg).trans j6, (World.cell?_of_block (a := ⟨g, off + 4 * j + 2, none⟩) hg).trans j7, (World.cell?_of_block (a := ⟨g, off + 4 * j + 3, none⟩) hg).trans j8⟩
theorem Pn.short_hall {l r1 r2 r3 r4 r5 : List Tk} {t2 : Tk} {xy : Nat × Nat} {x1 x3 x5 : Bytes} (h1 : Pn.must x1 l = .ok () r1) (h2 : Rl.nxt 1 none r1 = .ok t2 r2) (h3 : Pn.must x3 r2 = .ok () r3) (h4 : Pn.num2 r3 = .ok xy r4) (h5 : Pn.must x5 r4 = .ok () r5) : r5.length ≤ l.length := by
 have e1 := Pn.eat_must x1 _ _ _ h1
 have e2 := Pn.eat_nxt 1 none _ _ _ h2
 have e3 := Pn.eat_must x3 _ _ _ h3
 have e4 := Pn.eat_num2 _ _ _ h4
 have e5 := Pn.eat_must x5 _ _ _ h5
 omega
end Go.Proofs.YtocadlcglgpdcaaDoor
