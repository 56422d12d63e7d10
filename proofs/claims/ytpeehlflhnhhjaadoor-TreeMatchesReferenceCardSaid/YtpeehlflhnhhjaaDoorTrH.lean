/-
  Layer 4: the contract of tree.Root.
-/
import Derived.Test.YtpeehlflhnhhjaaDoorTrG
namespace Go.Proofs.YtpeehlflhnhhjaaDoor
set_option linter.unusedVariables false
set_option linter.unusedSimpArgs false
open Go Go.RowKit Go.Shelf
attribute [local go_sem] Oper.semAt_some

namespace Tr
def top : Nat → List Bytes → Bytes
  | 0, l => l.headD []
  | f + 1, l => if l.length ≤ 1 then l.headD [] else top f (up l)
def root (l : List Bytes) : Bytes := if l = [] then none else top l.length (l.map leaf)
/-- The head of the last level. -/
def lastOf {α : Type} (pre : List (α × List Bytes)) : Bytes := match pre.getLast? with
  | Option.none => []
  | some x => x.2.headD []
theorem lastOf_snoc {α : Type} (pre : List (α × List Bytes)) (x : α × List Bytes) : lastOf (pre ++ [x]) = x.2.headD [] := by
  unfold lastOf
  rw [List.getLast?_append]
  rfl
theorem lastOf_map {α : Type} (xs : List (α × List Bytes)) : lastOf xs = ((xs.map Prod.snd).getLast?.getD []).headD [] := by
  unfold lastOf
  rw [List.getLast?_map]
  cases xs.getLast? with
  | none => rfl
  | some x => rfl
theorem levs_last : ∀ (f : Nat) (l : List Bytes), ((levs f l).getLast?.getD []).headD [] = top f l
  | 0, l => rfl
  | f + 1, l => by
    unfold levs top
    split
    · rfl
    · have h := levs_len f (up l)
      rw [← levs_last f (up l)]
      cases hh : levs f (up l) with
      | nil => rw [hh] at h; simp at h
      | cons a r => rw [List.getLast?_cons_cons]
theorem lastOf_levs {α : Type} {xs : List (α × List Bytes)} {f : Nat} {l : List Bytes} (h : xs.map Prod.snd = levs f l) : lastOf xs = top f l := by
  rw [lastOf_map, h, levs_last]
end Tr
/-- What speaks of the cells of one block, and of what is changed beside it. -/
theorem box_cellish {bx B : Nat} {w0 : World} {cs : List Value} {e : TypeId} (hbx : bx < B) (hB : B = w0.heap.size) : Cellish B (fun W => Blk W bx cs e ∧ Chg [bx] w0 W) := by
  subst hB
  refine ⟨?_, ?_, ?_⟩
  · rintro W o ⟨h1, h2⟩
    exact ⟨h1.alloc o, h2.alloc o⟩
  · rintro W W' ⟨h1, h2⟩ hg
    exact ⟨(hg.block bx h1.lt (by simp)).trans h1, h2.trans (grown0_chg hg) (by simp)⟩
  · rintro W l o o' hl ho hoc ⟨h1, h2⟩
    refine ⟨put_cells ho hoc h1, ⟨h2.os, h2.tape, h2.output, by simpa using h2.size, fun k hk hn => (World.putObj_heap_other (by omega)).trans (h2.block k hk hn)⟩⟩
theorem strs_cellish {B : Nat} {v : Value} {l : List Bytes} : Cellish B (fun W => Strs W v l ∧ l ≠ [] ∧ l.length ≤ 900) := by
  refine ⟨?_, ?_, ?_⟩
  · rintro W o ⟨h, hr⟩
    exact ⟨h.quiet ((Chg.refl _ _).alloc o), hr⟩
  · rintro W W' ⟨h, hr⟩ hg
    exact ⟨h.quiet (grown0_chg hg), hr⟩
  · rintro W k o o' hl ho hoc ⟨⟨ao, cap, rfl, hle, h2⟩, hr⟩
    refine ⟨⟨ao, cap, rfl, hle, fun i x hx => ?_⟩, hr⟩
    obtain ⟨g, off, rfl, h3⟩ := h2 i x hx
    refine ⟨g, off, rfl, ?_⟩
    have hne : g ≠ k := by
      rintro rfl
      unfold World.cell? at h3
      rw [ho] at h3
      cases o <;> first | (cases hoc; done) | (cases h3)
    exact (World.cell?_of_block (a := ⟨g, off + i, none⟩) (World.putObj_heap_other hne)).trans h3
/-- The function's end behind one range over a function: the mark is taken off, then the results are read. -/
theorem leaves_mark1 {n : Nat} {P : Program} {fn : Func} {tmps : Array Value} {R : Ending → World → Prop} {B : Nat} (J : World → Prop)
    (HJ : ∀ A D, B ≤ D → A.heap[D]? = some (.deferred (some [])) → J A → J (A.putObj D (.deferred none))) (hR : ∀ w, J w → ∃ v, (results fn tmps).run P w = .ok v w ∧ R (.returned v) w)
    (D : Nat) (w : World) (hm : Marked B [D] w) (hj : J w) : LeavesInM Fence.wide n P fn tmps R [{ target := .collected D, args := #[] }] .returning w := by
  have hD := hm.2 D (by simp)
  exact ⟨by simp, .inl ⟨D, _, rfl, run_takeDeferred hD.2, hR _ (HJ _ _ hD.1 hD.2 hj)⟩⟩
theorem keeps_setCell {W : World} {b i : Nat} {v : Value} {cs : List Value} {e : TypeId} (hb : Blk W b cs e) : KeepsOthers W (W.setCell ⟨b, i, none⟩ v) := by
  refine ⟨by simp, fun k o ho hoc => ?_⟩
  refine (heap_setCell_other W ⟨b, i, none⟩ k v ?_).trans ho
  rintro rfl
  have h := hb
  unfold Blk at h
  rw [ho] at h
  cases h
  cases hoc
/-- A store into one of the two boxes. -/
theorem kp_setCell {bi bo b : Nat} {W : World} {v : Value} {cs : List Value} {e : TypeId} (hb : Blk W b cs e) (hx : b = bi ∨ b = bo) (hv : ∀ k, v.ownBlock = some k → (∃ u, W.cell? ⟨bo, 0, none⟩ = some u ∧ u.ownBlock = some k) ∨ (W.heap.size ≤ k ∧ k < W.heap.size)) : KpP bi bo W (W.setCell ⟨b, 0, none⟩ v) := by
  refine ⟨fun k o n1 n2 _ ho _ => ?_, fun v' k hv' hk => ?_, by simp⟩
  · refine (heap_setCell_other W ⟨b, 0, none⟩ k v ?_).trans ho
    rintro rfl
    exact hx.elim n1 n2
  · by_cases hbb : bo = b
    · subst hbb
      have h := (hb.set 0 v)
      cases cs with
      | nil =>
        have h1 := h.cell (i := 0) (v := v')
        unfold Blk at h
        rw [cell_of_row _ bo 0 _ e (0, 0) h] at hv'
        simp at hv'
      | cons c cs =>
        rw [h.cell (i := 0) rfl] at hv'
        cases hv'
        exact (hv k hk).imp_right (fun h => by simpa using h)
    · exact .inl ⟨v', (World.cell?_of_block (a := ⟨bo, 0, none⟩) (heap_setCell_other W ⟨b, 0, none⟩ bo v hbb)).symm.trans hv', hk⟩
theorem root_nil (w : World) (HL : Hid (Laid w)) (v : Value) (HV : Hid (Strs w v [])) :
    Calls Tryd.prog 13 #[v] w fun e w' => e = .returned (.string ⟨(Tr.root []).toArray⟩) ∧ Chg [] w w' := by
  obtain ⟨ao, cap, rfl, hcap, _⟩ := HV.out
  rw [List.length_nil]
  go_enter Tryd.func13, Tryd.ntmps13
  go_wp2_with fail
  have HA : Hid (Chg [] w (w.alloc (.cells #[.string ⟨#[110, 111, 110, 101]⟩] 9))) := Lib.hid ((Chg.refl _ _).alloc _)
  refine (of_spec _ (Lib.hid (HL.out.quiet HA.out)) _ [[110, 111, 110, 101]] (Lib.hid (one_strs w [110, 111, 110, 101])) (by simp) (Lib.hid (by intro x hx; simp at hx; rw [hx]; decide))).mono ?_
  rintro e w2 ⟨rfl, hc⟩
  have HC := Lib.hid (HA.out.trans hc (by simp))
  clear hc
  go_wp2_with fail
  go_ret
  exact ⟨rfl, HC.out⟩
set_option maxHeartbeats 1000000 in
theorem root_cons (w : World) (HL : Hid (Laid w)) (v : Value) (leaves : List Bytes) (HV : Hid (Strs w v leaves)) (hl0 : leaves ≠ []) (hl : leaves.length ≤ 900) (HB : Hid (∀ x ∈ leaves, x.length ≤ 1000000)) :
    Calls Tryd.prog 13 #[v] w fun e w' => e = .returned (.string ⟨(Tr.root leaves).toArray⟩) ∧ Chg [] w w' := by
  obtain ⟨ao, cap, rfl, hcap, _⟩ := HV.out
  obtain ⟨m, hm⟩ : ∃ m, m = leaves.length := ⟨_, rfl⟩
  have hm0 : 0 < m := by rw [hm]; exact List.length_pos_iff.2 hl0
  have hm9 : m ≤ 900 := by rw [hm]; exact hl
  rw [← hm] at hcap ⊢
  have HM := Lib.hid hm
  have HL0 := Lib.hid hl0
  clear hm hl0 hl
  obtain ⟨n, hn⟩ : ∃ n : Nat, 6 ≤ n := ⟨6, Nat.le_refl _⟩
  refine callsIn_wide.1 (callsIn_of_wp_marks Tryd.func13 rfl trivial ?_ rfl : CallsIn Fence.wide n _ _ _ _ _)
  simp only [Tryd.ntmps13, List.size_toArray, List.length_cons, List.length_nil, Nat.reduceAdd, Nat.reduceSub, Array.replicate_succ, Array.replicate_zero, List.push_toArray, List.append_toArray, List.nil_append, List.cons_append]
  gi_wp2
  refine ⟨trivial, (fun h0 => by cases h0), (callsIn_wide.2 (levels_spec _ _ m cap)).mono ?_⟩
  rintro e W4 ⟨rfl, rfl⟩
  have hbx := (Blk.new w [.string ⟨#[]⟩] 9).alloc (.cells #[.slice ao m cap] 22)
  have hbl := Blk.new (w.alloc (.cells #[.string ⟨#[]⟩] 9)) [.slice ao m cap] 22
  have hc4 : Chg [] w ((w.alloc (.cells #[.string ⟨#[]⟩] 9)).alloc (.cells #[.slice ao m cap] 22)) := ((Chg.refl _ _).alloc _).alloc _
  simp only [World.size_alloc] at hbl ⊢
  obtain ⟨w0, hw0⟩ : ∃ w0, w0 = ((w.alloc (.cells #[.string ⟨#[]⟩] 9)).alloc (.cells #[.slice ao m cap] 22)) := ⟨_, rfl⟩
  have h0s : w0.heap.size = w.heap.size + 1 + 1 := by rw [hw0]; simp
  rw [← hw0] at hbx hbl hc4 ⊢
  have HBX := Lib.hid hbx
  have HBL := Lib.hid hbl
  have HC4 := Lib.hid hc4
  have H0S := Lib.hid h0s
  clear hw0 hbx hbl hc4 h0s
  gi_wp2
  obtain ⟨bx, hbxe⟩ : ∃ bx, bx = w.heap.size := ⟨_, rfl⟩
  rw [← hbxe] at HBX HBL H0S ⊢
  have HBXE := Lib.hid hbxe
  clear hbxe
  have hW2 : 2 ≤ w.heap.size := by have := HL.out.lt; omega
  have cBl := HBL.out.cell (i := 0) rfl
  have lbx := HBX.out.lt
  have hwf : WfP 2 bx bx w0 := ⟨lbx, lbx, by rw [HBXE.out]; exact hW2, by rw [HBXE.out]; exact hW2, fun v k hv hk => by
    rw [HBX.out.cell (i := 0) rfl] at hv
    cases hv
    cases hk⟩
  have HS0 : Hid (Strs w0 (.slice ao m cap) leaves) := Lib.hid (by rw [HM.out] at *; exact HV.out.quiet HC4.out)
  refine range_hands (I := fun pre W' => Blk W' bx [.string ⟨(Tr.lastOf pre).toArray⟩] 9 ∧ Chg [bx] w0 W')
    (by omega) rfl (enters_of Tryd.func34 (by kernel_rfl) rfl) (levels_hands (n - 1) (by omega) (bx + 1) leaves HL0.out (by rw [← HM.out]; exact hm9) HB 2 bx bx (by omega) w0 hwf (Lib.hid (HL.out.quiet HC4.out)) _ HS0 cBl) (fun h k => h.trans k) ?kb ?hI ?hP ?h0 ?a1 ?assign ?body ?done
  case assign =>
    intro l2 x W5 K hK
    gi_wp2
    exact hK
  case hP => exact fun x => strs_cellish
  case hI => exact fun pre => box_cellish lbx rfl
  case kb =>
    intro W6 l6 o6 o6' hl6 ho6 hoc6
    exact KpP.put (by omega) ho6 hoc6
  case h0 => exact ⟨HBX.out, Chg.refl _ _⟩
  case body =>
    rintro l2 pre2 ⟨v2, lev⟩ W5 ⟨hb5, hc5⟩ ⟨⟨ao2, cap2, he2, hle2, hr2⟩, hne, h9⟩ hpl2
    simp only at he2 hle2 hr2 hne h9 ⊢
    subst he2
    obtain ⟨y, r, rfl⟩ : ∃ y r, lev = y :: r := by
      cases lev with
      | nil => exact absurd rfl hne
      | cons y r => exact ⟨y, r, rfl⟩
    obtain ⟨g, off, rfl, c0⟩ := hr2 0 y rfl
    rw [Nat.add_zero] at c0
    have lb5 := hb5.lt
    have f5 := hb5.free 0
    have c5 := hb5.cell (i := 0) rfl
    have HB5 := Lib.hid hb5
    have HC5 := Lib.hid hc5
    obtain ⟨q, hq⟩ : ∃ q, q = (y :: r).length := ⟨_, rfl⟩
    rw [← hq] at hle2 ⊢
    have hq0 : 0 < q := by rw [hq]; simp
    clear hb5 hc5 hr2 hne h9 hq
    gi_wp2
    exact ⟨keeps_setCell HB5.out, kp_setCell HB5.out (Or.inr rfl) (fun k h => by cases h), by rw [Tr.lastOf_snoc]; exact HB5.out.set 0 _, HC5.out.setCell _ _ (.inl (by simp))⟩
  case done =>
    rintro D xs W6 hD hxs ⟨hb6, hc6⟩ hd6
    have hroot : Tr.lastOf xs = Tr.root leaves := by
      unfold Tr.root
      rw [if_neg HL0.out]
      exact Tr.lastOf_levs hxs
    rw [hroot] at hb6
    have c6 := hb6.cell (i := 0) rfl
    have HC6 : Hid (Chg [] w W6) := Lib.hid (HC4.out.trans hc6 (fun k hk => .inr (by simp at hk; rw [hk, HBXE.out]; exact Nat.le_refl _)))
    have HMK : Hid (Marked w.heap.size [D] W6) := Lib.hid ((Marked.nil _ _).cons (by simp) (Nat.le_trans HC4.out.size hD) hd6)
    clear hb6 hc6 hd6 hroot hxs
    gi_wp2
    refine leaves_mark1 (B := w.heap.size) (J := fun W => Chg [] w W) (fun A D' hD' _ hA => ⟨hA.os, hA.tape, hA.output, by simpa using hA.size, fun k hk hn => (World.putObj_heap_other (by omega)).trans (hA.block k hk hn)⟩) (fun W hW => ⟨_, by simp [results, Tryd.results13, go_sem], rfl, hW⟩) D W6 HMK.out HC6.out
end Go.Proofs.YtpeehlflhnhhjaaDoor
