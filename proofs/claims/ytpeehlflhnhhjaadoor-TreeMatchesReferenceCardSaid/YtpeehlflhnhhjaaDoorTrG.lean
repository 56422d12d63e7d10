/-
  Layer 4: what a round over the levels leaves alone, and the levels as an iterator that hands over.
-/
import Derived.Test.YtpeehlflhnhhjaaDoorTrF
namespace Go.Proofs.YtpeehlflhnhhjaaDoor
set_option linter.unusedVariables false
set_option linter.unusedSimpArgs false
open Go Go.RowKit Go.Shelf

/-- A round writes at most the boxes bi and bo, and the row that the value in bo owns. -/
structure KpP (bi bo : Nat) (A B : World) : Prop where
  same : ∀ k o, k ≠ bi → k ≠ bo → (∀ v, A.cell? ⟨bo, 0, none⟩ = some v → v.ownBlock ≠ some k) → A.heap[k]? = some o → o.isCells = true → B.heap[k]? = some o
  own : ∀ v' k, B.cell? ⟨bo, 0, none⟩ = some v' → v'.ownBlock = some k → (∃ v, A.cell? ⟨bo, 0, none⟩ = some v ∧ v.ownBlock = some k) ∨ (A.heap.size ≤ k ∧ k < B.heap.size)
  size : A.heap.size ≤ B.heap.size
structure WfP (B0 bi bo : Nat) (V : World) : Prop where
  li : bi < V.heap.size
  lo : bo < V.heap.size
  gi : B0 ≤ bi
  go : B0 ≤ bo
  own : ∀ v k, V.cell? ⟨bo, 0, none⟩ = some v → v.ownBlock = some k → B0 ≤ k ∧ k < V.heap.size
theorem WfP.grown {B0 bi bo : Nat} {A B : World} (h : WfP B0 bi bo A) (hg : A.grownBy B none) : WfP B0 bi bo B := by
  have hb : B.heap[bo]? = A.heap[bo]? := hg.block bo h.lo (by simp)
  refine ⟨Nat.lt_of_lt_of_le h.li hg.size, Nat.lt_of_lt_of_le h.lo hg.size, h.gi, h.go, fun v k hv hk => ?_⟩
  have := h.own v k ((World.cell?_of_block (a := ⟨bo, 0, none⟩) hb).symm.trans hv) hk
  exact ⟨this.1, Nat.lt_of_lt_of_le this.2 hg.size⟩
theorem WfP.kp {B0 bi bo : Nat} {A B : World} (h : WfP B0 bi bo A) (hk : KpP bi bo A B) : WfP B0 bi bo B := by
  refine ⟨Nat.lt_of_lt_of_le h.li hk.size, Nat.lt_of_lt_of_le h.lo hk.size, h.gi, h.go, fun v k hv hkk => ?_⟩
  rcases hk.own v k hv hkk with ⟨u, hu, hku⟩ | ⟨h1, h2⟩
  · have := h.own u k hu hku
    exact ⟨this.1, Nat.lt_of_lt_of_le this.2 hk.size⟩
  · exact ⟨by have := h.gi; have := h.li; omega, h2⟩
theorem KpP.trans {bi bo : Nat} {A B C : World} (h : KpP bi bo A B) (h2 : KpP bi bo B C) : KpP bi bo A C := by
  refine ⟨fun k o n1 n2 hn ho hc => ?_, fun v' k hv hk => ?_, Nat.le_trans h.size h2.size⟩
  · refine h2.same k o n1 n2 (fun v hv e => ?_) (h.same k o n1 n2 hn ho hc) hc
    rcases h.own v k hv e with ⟨u, hu, hku⟩ | ⟨h3, _⟩
    · exact hn u hu hku
    · have := (Array.getElem?_eq_some_iff.1 ho).1
      omega
  · rcases h2.own v' k hv hk with ⟨u, hu, hku⟩ | ⟨h3, h4⟩
    · rcases h.own u k hu hku with h5 | ⟨h5, h6⟩
      · exact .inl h5
      · exact .inr ⟨h5, Nat.lt_of_lt_of_le h6 h2.size⟩
    · exact .inr ⟨Nat.le_trans h.size h3, h4⟩
theorem KpP.put {bi bo : Nat} {W : World} {l : Nat} {o o' : Obj} (hb : bo < l) (hl : W.heap[l]? = some o) (ho : o.isCells = false) : KpP bi bo W (W.putObj l o') := by
  have hbo : (W.putObj l o').heap[bo]? = W.heap[bo]? := World.putObj_heap_other (by omega)
  refine ⟨fun k q n1 n2 hn hq hc => ?_, fun v' k hv hk => ?_, by simp⟩
  · by_cases hkl : k = l
    · subst hkl
      rw [hl] at hq
      cases hq
      rw [ho] at hc
      cases hc
    · exact (World.putObj_heap_other hkl).trans hq
  · exact .inl ⟨v', (World.cell?_of_block (a := ⟨bo, 0, none⟩) hbo).symm.trans hv, hk⟩
theorem tab_cells {w : World} {name : String} {k : IntKind} {zs : List Int} {g : Nat} (hg : Tryd.prog.globalNamed name = some g) (h : Lib.TabIs Tryd.prog w name k zs) : ∃ cs e fr, w.heap[g]? = some (.cells cs e fr) := by
  unfold Lib.TabIs World.var? at h
  rw [hg] at h
  simp only [Option.bind_some] at h
  split at h
  · rename_i cs e fr h2
    exact ⟨cs, e, fr, h2⟩
  · cases h
theorem tab_same {w w' : World} {name : String} {k : IntKind} {zs : List Int} {g : Nat} (hg : Tryd.prog.globalNamed name = some g) (h : Lib.TabIs Tryd.prog w name k zs) (hc : w'.heap[g]? = w.heap[g]?) : Lib.TabIs Tryd.prog w' name k zs := by
  unfold Lib.TabIs World.var? at h ⊢
  rw [hg] at h ⊢
  simp only [Option.bind_some] at h ⊢
  rw [hc]
  exact h
theorem Laid.lt {w : World} (h : Laid w) : 1 < w.heap.size := by
  obtain ⟨cs, e, fr, h1⟩ := tab_cells glob_pow h.pow
  exact (Array.getElem?_eq_some_iff.1 h1).1
theorem Laid.kp {B0 bi bo : Nat} {A B : World} (hB : 2 ≤ B0) (hw : WfP B0 bi bo A) (hk : KpP bi bo A B) (h : Laid A) : Laid B := by
  have key : ∀ g, g < 2 → (∃ cs e fr, A.heap[g]? = some (.cells cs e fr)) → B.heap[g]? = A.heap[g]? := by
    rintro g hg ⟨cs, e, fr, h1⟩
    rw [h1]
    refine hk.same g _ (by have := hw.gi; omega) (by have := hw.go; omega) (fun v hv e => ?_) h1 rfl
    have := (hw.own v g hv e).1
    omega
  exact ⟨tab_same glob_hex h.hex (key 0 (by omega) (tab_cells glob_hex h.hex)), tab_same glob_pow h.pow (key 1 (by omega) (tab_cells glob_pow h.pow))⟩
theorem below_chg {w W : World} (h : Below w.heap.size w W) : Chg [] w W := ⟨h.os, h.tape, h.output, h.size, fun k hk _ => h.block k hk⟩
theorem levels_hands (n : Nat) (hn : 4 ≤ n) (Bl : Nat) (leaves : List Bytes) (hl0 : leaves ≠ []) (hl : leaves.length ≤ 900) (HB : Hid (∀ x ∈ leaves, x.length ≤ 1000000)) (B0 bi bo : Nat) (hB0 : 2 ≤ B0) (w : World) (hwf : WfP B0 bi bo w) (HL : Hid (Laid w)) (v : Value) (HV : Hid (Strs w v leaves)) (hBl : w.cell? ⟨Bl, 0, none⟩ = some v) :
    Hands Tryd.prog n 34 #[.pointer (some ⟨Bl, 0, none⟩)] (fun x => x.1) (fun x A => Strs A x.1 x.2 ∧ x.2 ≠ [] ∧ x.2.length ≤ 900) (KpP bi bo) (fun xs => xs.map Prod.snd = Tr.levs leaves.length (leaves.map Tr.leaf)) (leaves.length + 1) w := by
  intro l J W hW hJ hJM hY h0
  have hc := below_chg hW
  refine (levels1_in n hn l Bl leaves hl0 hl HB J (KpP bi bo) (WfP B0 bi bo) (Lib.hid hJ) (Lib.hid fun A B h hg => h.grown hg) (Lib.hid fun A B h hk => h.kp hk) (Lib.hid fun A B h hk hl => hl.kp hB0 h hk) (Lib.hid ?_) (Lib.hid fun pre x A hj hs hne h9 hN => ?_) W (Lib.hid hJM) (hwf.grown hc.grown0) (Lib.hid (HL.out.quiet hc)) v (Lib.hid (HV.out.quiet hc)) ?_ h0)
  · rintro V A B g hV hg h1 h2 ⟨i, u, hu⟩ hk
    have hA : A.heap[bo]? = V.heap[bo]? := hg.block bo hV.lo (by simp)
    unfold World.cell? at hu
    cases hh : A.heap[g]? with
    | none => rw [hh] at hu; cases hu
    | some o =>
      have hoc : o.isCells = true := by
        cases o <;> first | rfl | (rw [hh] at hu; cases hu)
      refine hk.same g o (by have := hV.li; omega) (by have := hV.lo; omega) (fun v hv e => ?_) hh hoc
      have := hV.own v g ((World.cell?_of_block (a := ⟨bo, 0, none⟩) hA).symm.trans hv) e
      omega
  · exact hY pre x A hj ⟨hs, hne, h9⟩ hN
  · exact (World.cell?_of_block (a := ⟨Bl, 0, none⟩) (hW.block Bl (World.block_lt_of_cell? _ _ hBl))).trans hBl
end Go.Proofs.YtpeehlflhnhhjaaDoor
