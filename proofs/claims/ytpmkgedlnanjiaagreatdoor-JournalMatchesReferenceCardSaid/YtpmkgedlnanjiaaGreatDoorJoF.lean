/-
  Journal: Open.
-/
import Derived.Test.YtpmkgedlnanjiaaGreatDoorJoE
import Derived.Test.YtpmkgedlnanjiaaGreatDoorPrTk
import Derived.Test.YtpmkgedlnanjiaaGreatDoorDkI
import Derived.Deep.DeepCutAuto
namespace Go.Proofs.YtpmkgedlnanjiaaGreatDoor
set_option linter.unusedVariables false
set_option linter.unusedSimpArgs false
set_option maxRecDepth 100000
open Go Go.RowKit
attribute [local irreducible] Go.wpStill
/-- The sectors of a disk, the first k. -/
def secsOf (D : DK) (k : Nat) : List Bytes := (List.range k).map D.cur
theorem secsOf_succ (D : DK) (k : Nat) : secsOf D (k + 1) = secsOf D k ++ [D.cur k] := by
  unfold secsOf
  rw [List.range_succ, List.map_append]
  rfl
theorem secsOf_len (D : DK) (k : Nat) : (secsOf D k).length = k := by unfold secsOf; simp
theorem secsOf_get (D : DK) {k i : Nat} (h : i < k) : (secsOf D k)[i]? = some (D.cur i) := by
  unfold secsOf
  rw [List.getElem?_map, List.getElem?_range h]
  rfl
theorem read_on {D : DK} (h : D.off = false) {k : Nat} (hk : k < D.n) : D.read (k : Int) = (D.cur k, 0) := by
  unfold DK.read DK.valid
  rw [h, if_neg (by decide), if_neg (by rw [decide_eq_true ⟨by omega, by omega⟩]; decide), Int.toNat_natCast]
theorem read_end {D : DK} (h : D.off = false) : D.read (D.n : Int) = ([], 1) := by
  unfold DK.read DK.valid
  rw [h, if_neg (by decide), if_pos (decide_eq_false (by omega))]
theorem read_dead {D : DK} (h : D.off = true) (k : Int) : D.read k = ([], 24) := by
  unfold DK.read
  rw [if_pos h]
theorem OwT.cells {B : Nat} {l : List Bytes} {ao : Option Addr} {n cap : Nat} {w : World} (h : OwT B l (.slice ao n cap) w) (hl : l ≠ []) : ∃ g, ao = some ⟨g, 0, none⟩ ∧ n = l.length ∧ l.length ≤ cap ∧ B ≤ g ∧ g < w.heap.size ∧ ∀ (i : Nat) (x : Bytes), l[i]? = some x → w.cell? ⟨g, i, none⟩ = some (.string ⟨x.toArray⟩) := by
  rcases h.2 with ⟨he, h0⟩ | ⟨g, cap', cur, he, hB, hg, hle, hm, hsz, ht⟩
  · exact absurd (List.eq_nil_of_length_eq_zero h0) hl
  · cases he
    refine ⟨g, rfl, rfl, hle, hB, (Array.getElem?_eq_some_iff.1 hg).1, fun i x hx => ?_⟩
    have hi := (List.getElem?_eq_some_iff.1 hx).1
    have := World.ownsRow.cellAt h i (by omega)
    rw [this, List.getElem?_map, hx]
    rfl
theorem cntV_max (a b : Option Nat) : max (cntV a) (cntV b) = cntV (Jn.maxC a b) := by
  cases a <;> cases b <;> simp only [cntV, Jn.maxC] <;> omega
theorem maxC_le {a b : Option Nat} {c N : Nat} (ha : ∀ n, a = some n → n ≤ N) (hb : ∀ n, b = some n → n ≤ N) (h : Jn.maxC a b = some c) : c ≤ N := by
  cases a with
  | none => cases b with
    | none => cases h
    | some y => exact hb c h
  | some x => cases b with
    | none => exact ha c h
    | some y =>
      have h1 := ha x rfl
      have h2 := hb y rfl
      injection h with h
      omega
theorem found_none {sm : Bytes → Bytes} {D : DK} {i : Nat} (h : Jn.found sm D i = none) : ∀ k, i ≤ k → Jn.found sm D k = none
  | 0, hk => by have : i = 0 := by omega
                rw [this] at h; exact h
  | k + 1, hk => by
    by_cases e : i = k + 1
    · rw [← e]; exact h
    · have := found_none h k (by omega)
      unfold Jn.found
      rw [this]
theorem found_succ {sm : Bytes → Bytes} {D : DK} {k : Nat} {t : Bytes} (h : Jn.found sm D k = some t) : Jn.found sm D (k + 1) = (Jn.piece sm (2 + k) (D.cur (2 + k))).map (fun x => t ++ x) := by
  rw [show Jn.found sm D (k + 1) = (match Jn.found sm D k with | none => none | some t => (Jn.piece sm (2 + k) (D.cur (2 + k))).map (fun x => t ++ x)) from rfl, h]
theorem openJ_none {sm : Bytes → Bytes} {D : DK} (h0 : D.off = false) (h3 : ¬ D.n < 3) (h : Jn.maxC (Jn.cnt sm 0 (D.cur 0) (D.n - 2)) (Jn.cnt sm 1 (D.cur 1) (D.n - 2)) = none) : Jn.openJ sm D = ((25, none), D) := by
  unfold Jn.openJ
  rw [if_neg (by rw [h0]; decide), if_neg h3, h]
theorem openJ_bad {sm : Bytes → Bytes} {D : DK} {c : Nat} (h0 : D.off = false) (h3 : ¬ D.n < 3) (h : Jn.maxC (Jn.cnt sm 0 (D.cur 0) (D.n - 2)) (Jn.cnt sm 1 (D.cur 1) (D.n - 2)) = some c) (hb : (Jn.found sm D c).bind Jn.records = none) : Jn.openJ sm D = ((25, none), D) := by
  unfold Jn.openJ
  rw [if_neg (by rw [h0]; decide), if_neg h3, h]
  simp only [hb]
theorem openJ_first {sm : Bytes → Bytes} {D : DK} {c : Nat} {l : List Bytes} (h0 : D.off = false) (h3 : ¬ D.n < 3) (h : Jn.maxC (Jn.cnt sm 0 (D.cur 0) (D.n - 2)) (Jn.cnt sm 1 (D.cur 1) (D.n - 2)) = some c) (hb : (Jn.found sm D c).bind Jn.records = some l)
    (hm : (Jn.mend sm D 0 c (D.cur 0)).1 ≠ 0) : Jn.openJ sm D = (((Jn.mend sm D 0 c (D.cur 0)).1, none), (Jn.mend sm D 0 c (D.cur 0)).2) := by
  unfold Jn.openJ
  rw [if_neg (by rw [h0]; decide), if_neg h3, h]
  simp only [hb]
  rw [if_pos hm]
theorem openJ_second {sm : Bytes → Bytes} {D : DK} {c : Nat} {l : List Bytes} (h0 : D.off = false) (h3 : ¬ D.n < 3) (h : Jn.maxC (Jn.cnt sm 0 (D.cur 0) (D.n - 2)) (Jn.cnt sm 1 (D.cur 1) (D.n - 2)) = some c) (hb : (Jn.found sm D c).bind Jn.records = some l)
    (hm : (Jn.mend sm D 0 c (D.cur 0)).1 = 0) (hm2 : (Jn.mend sm (Jn.mend sm D 0 c (D.cur 0)).2 1 c (D.cur 1)).1 ≠ 0) :
    Jn.openJ sm D = (((Jn.mend sm (Jn.mend sm D 0 c (D.cur 0)).2 1 c (D.cur 1)).1, none), (Jn.mend sm (Jn.mend sm D 0 c (D.cur 0)).2 1 c (D.cur 1)).2) := by
  unfold Jn.openJ
  rw [if_neg (by rw [h0]; decide), if_neg h3, h]
  simp only [hb]
  rw [if_neg (by rw [hm]; decide), if_pos hm2]
theorem openJ_good {sm : Bytes → Bytes} {D : DK} {c : Nat} {l : List Bytes} (h0 : D.off = false) (h3 : ¬ D.n < 3) (h : Jn.maxC (Jn.cnt sm 0 (D.cur 0) (D.n - 2)) (Jn.cnt sm 1 (D.cur 1) (D.n - 2)) = some c) (hb : (Jn.found sm D c).bind Jn.records = some l)
    (hm : (Jn.mend sm D 0 c (D.cur 0)).1 = 0) (hm2 : (Jn.mend sm (Jn.mend sm D 0 c (D.cur 0)).2 1 c (D.cur 1)).1 = 0) :
    Jn.openJ sm D = ((0, some ⟨D.n, c, l, false⟩), (Jn.mend sm (Jn.mend sm D 0 c (D.cur 0)).2 1 c (D.cur 1)).2) := by
  unfold Jn.openJ
  rw [if_neg (by rw [h0]; decide), if_neg h3, h]
  simp only [hb]
  rw [if_neg (by rw [hm]; decide), if_neg (by rw [hm2]; decide), hm2]
/-- One more than the listed blocks. -/
def GN : Nat := max (max (max (max 2 4) 0) 1) 3 + 1
theorem tab_kept2 {w w' : World} {own : List Nat} {name : String} {k : IntKind} {zs : List Int} {g : Nat} (hg : Tryz.prog.globalNamed name = some g) (h : Lib.TabIs Tryz.prog w name k zs) (hc : Chg own w w') (hn : g ∉ own) : Lib.TabIs Tryz.prog w' name k zs := by
  unfold Lib.TabIs World.var? at h ⊢
  rw [hg] at h ⊢
  simp only [Option.bind_some] at h ⊢
  have hl : g < w.heap.size := by
    rcases Nat.lt_or_ge g w.heap.size with h' | h'
    · exact h'
    · rw [Array.getElem?_eq_none h'] at h; simp at h
  rw [hc.block g hl hn]
  exact h
theorem Laid.kept {w w' : World} {own : List Nat} (h : Laid w) (hc : Chg own w w') (hn : ∀ k ∈ own, GN ≤ k) : Laid w' := by
  have hh : ∀ g, g < GN → g ∉ own := fun g h1 h2 => by have := hn g h2; omega
  exact ⟨tab_kept2 glob_hex h.hex hc (hh _ (by decide)), tab_kept2 glob_pow h.pow hc (hh _ (by decide)), h.syn.imp (fun ev h1 => ⟨cell_quiet hc h1.1 (hh _ (by decide)), h1.2⟩), h.rng.imp (fun ev h1 => ⟨cell_quiet hc h1.1 (hh _ (by decide)), h1.2⟩), h.cut.imp (fun ev h1 => cell_quiet hc h1 (hh _ (by decide)))⟩
theorem tab_below {w : World} {name : String} {k : IntKind} {zs : List Int} {g : Nat} (hg : Tryz.prog.globalNamed name = some g) (h : Lib.TabIs Tryz.prog w name k zs) : g < w.heap.size := by
  unfold Lib.TabIs World.var? at h
  rw [hg] at h
  simp only [Option.bind_some] at h
  rcases Nat.lt_or_ge g w.heap.size with h' | h'
  · exact h'
  · rw [Array.getElem?_eq_none h'] at h; simp at h
theorem Laid.gn {w : World} (h : Laid w) : GN ≤ w.heap.size := by
  have h1 := tab_below glob_hex h.hex
  have h2 := tab_below glob_pow h.pow
  obtain ⟨_, h3, _⟩ := h.syn
  obtain ⟨_, h4, _⟩ := h.rng
  obtain ⟨_, h5⟩ := h.cut
  have h3 := block_lt_of_cell h3
  have h4 := block_lt_of_cell h4
  have h5 := block_lt_of_cell h5
  simp only at h3 h4 h5
  unfold GN
  simp only [Nat.succ_le_iff, Nat.max_lt]
  omega
namespace Jn
theorem put_q (l : List Bytes) (D : DK) (p : Nat) : (put D p l).2.q.length ≤ D.q.length + l.length := by
  unfold put
  have h := writes_q l D p
  split
  · exact h
  · refine Nat.le_trans ?_ h
    generalize (writes D p l).2 = E
    have hf : (E.count).2.q.length ≤ E.q.length := by
      unfold DK.count
      cases ha : E.arm with
      | none => simp
      | some x =>
        obtain ⟨a, u, v⟩ := x
        simp only
        split
        · simp
        · unfold DK.fail
          split
          · simp
          · simp [DK.down]
    unfold DK.sync
    split
    · exact Nat.le_refl _
    · split
      · exact hf
      · simp [DK.flush]
theorem mend_q {sm : Bytes → Bytes} (D : DK) (p c : Nat) (s : Bytes) : (mend sm D p c s).2.q.length ≤ D.q.length + 2 := by
  unfold mend
  split
  · exact Nat.le_add_right _ _
  · split
    · have := put_q [zero] D p
      simp only [List.length_singleton] at this
      omega
    · have h1 := put_q [zero] D p
      have h2 := put_q [head sm p c] (put D p [zero]).2 p
      simp only [List.length_singleton] at h1 h2
      omega
/-- The heads are mended one after the other. -/
def mendN (sm : Bytes → Bytes) (D : DK) (c : Nat) : Nat → Int × DK
  | 0 => (0, D)
  | i + 1 => mend sm (mendN sm D c i).2 i c (D.cur i)
theorem mendN_q {sm : Bytes → Bytes} (D : DK) (c : Nat) : ∀ i, (mendN sm D c i).2.q.length ≤ D.q.length + 2 * i
  | 0 => Nat.le_refl _
  | i + 1 => by
    have h1 := mendN_q (sm := sm) D c i
    have h2 := mend_q (sm := sm) (mendN sm D c i).2 i c (D.cur i)
    show (mend sm (mendN sm D c i).2 i c (D.cur i)).2.q.length ≤ _
    omega
end Jn
theorem OwT.less {B B' : Nat} {l : List Bytes} {v : Value} {w : World} (h : OwT B' l v w) (hb : B ≤ B') : OwT B l v w := by
  refine ⟨h.1, ?_⟩
  rcases h.2 with h1 | ⟨g, cap, cur, he, hB, hr⟩
  · exact .inl h1
  · exact .inr ⟨g, cap, cur, he, by omega, hr⟩
/-- A list of one text that has just been made. -/
theorem strs_one (w : World) (x : Bytes) : Strs (w.alloc (.cells #[.string ⟨x.toArray⟩] 9)) (.slice (some ⟨w.heap.size, 0, none⟩) 1 1) [x] :=
  ⟨_, 1, rfl, Nat.le_refl _, fun i y hy => by
    cases i with
    | zero =>
      injection hy with hy
      subst hy
      exact ⟨_, 0, rfl, (Blk.new w [.string ⟨x.toArray⟩] 9).cell (i := 0) rfl⟩
    | succ i => simp at hy⟩
theorem openJ_stop {sm : Bytes → Bytes} {D : DK} {c : Nat} {l : List Bytes} (h0 : D.off = false) (h3 : ¬ D.n < 3) (h : Jn.maxC (Jn.cnt sm 0 (D.cur 0) (D.n - 2)) (Jn.cnt sm 1 (D.cur 1) (D.n - 2)) = some c) (hb : (Jn.found sm D c).bind Jn.records = some l)
    {i : Nat} (hi : i < 2) (hz : ∀ m, m ≤ i → (Jn.mendN sm D c m).1 = 0) {rr : Int} {EE : DK} (hm : Jn.mendN sm D c (i + 1) = (rr, EE)) (hr : rr ≠ 0) : Jn.openJ sm D = ((rr, none), EE) := by
  rcases (by omega : i = 0 ∨ i = 1) with rfl | rfl
  · have h1 : Jn.mend sm D 0 c (D.cur 0) = (rr, EE) := hm
    rw [openJ_first h0 h3 h hb (by rw [h1]; exact hr), h1]
  · have h1 : (Jn.mend sm D 0 c (D.cur 0)).1 = 0 := hz 1 (Nat.le_refl _)
    have h2 : Jn.mend sm (Jn.mend sm D 0 c (D.cur 0)).2 1 c (D.cur 1) = (rr, EE) := hm
    rw [openJ_second h0 h3 h hb h1 (by rw [h2]; exact hr), h2]
theorem openJ_end {sm : Bytes → Bytes} {D : DK} {c : Nat} {l : List Bytes} (h0 : D.off = false) (h3 : ¬ D.n < 3) (h : Jn.maxC (Jn.cnt sm 0 (D.cur 0) (D.n - 2)) (Jn.cnt sm 1 (D.cur 1) (D.n - 2)) = some c) (hb : (Jn.found sm D c).bind Jn.records = some l)
    (hz : ∀ m, m ≤ 2 → (Jn.mendN sm D c m).1 = 0) : Jn.openJ sm D = ((0, some ⟨D.n, c, l, false⟩), (Jn.mendN sm D c 2).2) :=
  openJ_good h0 h3 h hb (hz 1 (by omega)) (hz 2 (by omega))
theorem parse_count : ∀ (k : Nat) (s : Bytes) (l : List Bytes), Jn.parse k s = some l → l.length ≤ s.length
  | 0, s, l, h => by
    unfold Jn.parse at h
    split at h
    · injection h with h; subst h; simp
    · cases h
  | k + 1, s, l, h => by
    unfold Jn.parse at h
    split at h
    · injection h with h; subst h; simp
    · cases hc : Jn.cutC s with
      | none => rw [hc] at h; cases h
      | some x =>
        obtain ⟨a, r⟩ := x
        rw [hc] at h
        simp only at h
        cases hl : Jn.lenOf a with
        | none => rw [hl] at h; cases h
        | some n =>
          rw [hl] at h
          simp only at h
          split at h
          · cases h
          · cases hp : Jn.parse k (r.drop n) with
            | none => rw [hp] at h; cases h
            | some m =>
              rw [hp] at h
              injection h with h
              subst h
              have h1 := parse_count k _ m hp
              have h2 := Jn.cutC_len s a r hc
              rw [List.length_drop] at h1
              rw [List.length_cons]
              omega
def slen44 : Value → Nat
  | .slice _ n _ => n
  | _ => 0
/-- What Open answers. -/
def Opened (w : World) (own : List Nat) (p : Nat) (D : DK) (R : Ending → World → Prop) : Prop :=
  (∀ e E w', Jn.openJ Dg.sum D = ((e, none), E) → DkTo w own p E w' → R (.returned (.tuple #[.pointer none, .slice none 0 0, .int .i64 e])) w') ∧
  ∀ j E b own' v v' w', Jn.openJ Dg.sum D = ((0, some j), E) → DkAt w' own' p E → Chg own w w' → (∀ k ∈ own', k ∈ own ∨ w.heap.size ≤ k) → JR w' w.heap.size b p j v → OwT w.heap.size j.l v' w' →
    w.heap.size ≤ b → b ∉ own' → (∀ k, v.ownBlock = some k → k ∉ own' ∧ k ≠ b) → (∀ k, v'.ownBlock = some k → k ∉ own' ∧ k ≠ b ∧ v.ownBlock ≠ some k) →
    R (.returned (.tuple #[.pointer (some ⟨b, 0, none⟩), v', .int .i64 0])) w'
set_option maxHeartbeats 4000000 in
theorem open_r {w : World} (HL : Hid (Laid w)) {own : List Nat} (HF0 : Hid (∀ k ∈ own, GN ≤ k)) {p : Nat} {D : DK} (H : Hid (DkAt w own p D)) (hq : D.q.length ≤ 1000) (hn4 : D.n ≤ 100) {R : Ending → World → Prop} (h : Hid (Opened w own p D R)) :
    Calls Tryz.prog 7 #[.pointer (some ⟨p, 0, none⟩)] w R := by
  have HRR := h
  clear h
  obtain ⟨ims, hi⟩ := info_str44
  have HIM := Lib.hid hi
  clear hi
  have HOKD : Hid D.Ok := Lib.hid H.out.ok
  obtain ⟨B, hB⟩ : ∃ B, B = w.heap.size := ⟨_, rfl⟩
  have HBB := Lib.hid hB
  clear hB
  go_enter Tryz.func7, Tryz.ntmps7
  obtain ⟨n, hn⟩ : ∃ n, n = D.n := ⟨_, rfl⟩
  have HN := Lib.hid hn
  rw [← hn] at hn4
  clear hn
  go_wp2_with fail
  go_loopw [5] (fun vv wr => ∃ (k : Nat) (v : Value), vv = v ∧ k ≤ n ∧ Hid (OwT B (secsOf D k) v wr) ∧ Hid (Chg [] w wr)) (fun vv _ => n + 1 - slen44 vv)
  case atStart => exact ⟨0, .slice none 0 0, rfl, Nat.zero_le _, Lib.hid (OwT.nil _ _), Lib.hid (Chg.refl _ _)⟩
  case round =>
    obtain ⟨k, vv, rfl, hk, HO, HC⟩ := hrel
    obtain ⟨vo, vc, rfl⟩ := HO.out.form
    rw [secsOf_len] at HO ⊢
    go_wp2_with fail
    refine (read_spec (H.out.kept HC.out (by simp)) (by omega) (k : Int)).mono ?_
    rintro e w2 ⟨rfl, h2⟩
    have C2 : Hid (Chg [] w w2) := Lib.hid (HC.out.trans h2 (by simp))
    have HO2 : Hid (OwT B (secsOf D k) (.slice vo k vc) w2) := Lib.hid (HO.out.keep h2 (by simp))
    clear h2 HO HC
    by_cases hoff : D.off = true
    · have HOF : Hid (Jn.openJ Dg.sum D = ((24, none), D)) := Lib.hid (by unfold Jn.openJ; rw [if_pos hoff])
      rw [read_dead hoff]
      clear hoff
      go_wp2_with fail
      go_ret3
      exact HRR.out.1 24 D w2 HOF.out (H.out.to C2.out)
    have hon : D.off = false := by simpa using hoff
    have HON := Lib.hid hon
    clear hoff hon
    by_cases hlt : k < n
    · have HRD : Hid (D.read (k : Int) = (D.cur k, 0)) := Lib.hid (read_on HON.out (by rw [← HN.out]; exact hlt))
      obtain ⟨x, hx⟩ : ∃ x, x = D.cur k := ⟨_, rfl⟩
      have HX := Lib.hid hx
      rw [HRD.out, ← hx]
      clear hx HRD
      have HOX : Hid (OwT B (secsOf D k) (.slice vo k vc) (w2.alloc (.cells #[.string ⟨x.toArray⟩] 9))) := Lib.hid (HO2.out.keep ((Chg.refl [] w2).alloc _) (by simp))
      have HBA : Hid (B ≤ (w2.alloc (.cells #[.string ⟨x.toArray⟩] 9)).heap.size) := Lib.hid (by have h1 := C2.out.size; have h2 := HBB.out; simp; omega)
      go_wp2_with (at_builtin; go_loud (refine wpList_append_lies _ rfl (.tmp 32) (.tmp 34) 26 rfl B 9 ims (.string ⟨#[]⟩) 1 16 Tryz.underlying26 HIM.out.1 HIM.out.2.1 HIM.out.2.2.1 HIM.out.2.2.2 rfl (by decide) (.slice vo k vc) k ((secsOf D k).map vstr) rfl (by have h9 := HOX.out; unfold OwT at h9; rw [secsOf_len] at h9; exact h9) ⟨w2.heap.size, 0, none⟩ 1 1 [.string ⟨x.toArray⟩] rfl rfl (fun j u hj => by rw [addr_add, Nat.zero_add]; exact (Blk.new w2 [.string ⟨x.toArray⟩] 9).cell hj) (by intro u hu; simp at hu; rcases hu with rfl; rfl) (by omega) (by unfold maxLen; omega) (by omega) HBA.out _ rfl ?kk))
      case kk =>
        intro g9 cap9 w9 h1 h2 h3 h4
        have HO9 : Hid (OwT B (secsOf D (k + 1)) (.slice (some ⟨g9, 0, none⟩) (k + 1) cap9) w9) := Lib.hid (by
          unfold OwT
          rw [secsOf_len, secsOf_succ, List.map_append, ← HX.out]
          exact h1)
        have C9 : Hid (Chg [] w w9) := Lib.hid ((C2.out.alloc _).grown h2 (fun k hk => .inr (by have := (HOX.out.ge k hk).1; rw [← HBB.out]; exact this)))
        clear h1 h2 h3 h4
        go_wp2_with fail
        go_roundw
        case rel => exact ⟨k + 1, _, rfl, by omega, HO9, C9⟩
        case measure => simp [slen44]; omega
    · have hkn : k = n := by omega
      subst hkn
      have HRD : Hid (D.read (k : Int) = ([], 1)) := Lib.hid (by rw [HN.out]; exact read_end HON.out)
      rw [HRD.out]
      clear HRD hlt hk
      go_upto_region 9 with (fail)
      by_cases h3 : k < 3
      · have HOF : Hid (Jn.openJ Dg.sum D = ((1, none), D)) := Lib.hid (by unfold Jn.openJ; rw [HON.out, if_neg (by decide), if_pos (by rw [← HN.out]; exact h3)])
        have z1 : (k : Int) < 3 := by omega
        go_wp2_with fail
        go_ret3
        exact HRR.out.1 1 D w2 HOF.out (H.out.to C2.out)
      have z1 : ¬ (k : Int) < 3 := by omega
      have H3 := Lib.hid h3
      go_upto_region 12 with (fail)
      obtain ⟨g, rfl, -, hcap, hBg, hgw, hcells⟩ := HO2.out.cells (by intro e; have := congrArg List.length e; rw [secsOf_len] at this; simp at this; omega)
      rw [secsOf_len] at hcap
      have HCL : Hid (∀ i, i < k → w2.cell? ⟨g, i, none⟩ = some (.string ⟨(D.cur i).toArray⟩)) := Lib.hid (fun i hi => hcells i _ (secsOf_get D hi))
      have HG : Hid (B ≤ g ∧ g < w2.heap.size) := Lib.hid ⟨hBg, hgw⟩
      clear hcells hBg hgw z1
      obtain ⟨w3, hw⟩ : ∃ W, W = w2.alloc (.cells #[.pointer (some ⟨p, 0, none⟩), .int .i64 (k : Int), .int .i64 0, .slice none 0 0, .bool false] 53) := ⟨_, rfl⟩
      rw [← hw]
      obtain ⟨b, hb⟩ : ∃ X, X = w2.heap.size := ⟨_, rfl⟩
      rw [← hb]
      have HJ : Hid (Blk w3 b [.pointer (some ⟨p, 0, none⟩), .int .i64 (k : Int), .int .i64 0, .slice none 0 0, .bool false] 53) := Lib.hid (by rw [hw, hb]; exact Blk.new w2 [.pointer (some ⟨p, 0, none⟩), .int .i64 (k : Int), .int .i64 0, .slice none 0 0, .bool false] _)
      have C23 : Hid (Chg [] w2 w3) := Lib.hid (by rw [hw]; exact (Chg.refl _ _).alloc _)
      have HBG : Hid (g < b ∧ w.heap.size ≤ b) := Lib.hid (by have h1 := HG.out; have h2 := C2.out.size; omega)
      clear hw hb
      have C3 : Hid (Chg [] w w3) := Lib.hid (C2.out.trans C23.out (by simp))
      have HL3 : Hid (∀ i, i < k → w3.cell? ⟨g, i, none⟩ = some (.string ⟨(D.cur i).toArray⟩)) := Lib.hid (fun i hi => cell_quiet C23.out (HCL.out i hi) (by simp))
      obtain ⟨s0, hs0⟩ : ∃ s, s = D.cur 0 := ⟨_, rfl⟩
      obtain ⟨s1, hs1⟩ : ∃ s, s = D.cur 1 := ⟨_, rfl⟩
      have HS0 : Hid (s0 = D.cur 0 ∧ s0.length = 64) := Lib.hid ⟨hs0, by rw [hs0]; exact DK.last_len _ _ _ (HOKD.out.st 0 (by rw [← HN.out]; omega)) (fun q hq => (HOKD.out.q q hq).2)⟩
      have HS1 : Hid (s1 = D.cur 1 ∧ s1.length = 64) := Lib.hid ⟨hs1, by rw [hs1]; exact DK.last_len _ _ _ (HOKD.out.st 1 (by rw [← HN.out]; omega)) (fun q hq => (HOKD.out.q q hq).2)⟩
      have HT0 : Hid (w3.cell? ⟨g, 0, none⟩ = some (.string ⟨s0.toArray⟩)) := Lib.hid (by rw [hs0]; exact HL3.out 0 (by omega))
      have HT1 : Hid (w3.cell? ⟨g, 1, none⟩ = some (.string ⟨s1.toArray⟩)) := Lib.hid (by rw [hs1]; exact HL3.out 1 (by omega))
      clear hs0 hs1
      have z0 : (0 : Int) < (k : Int) := by omega
      have z1 : (1 : Int) < (k : Int) := by omega
      have z2 : (k : Int) ≤ (vc : Int) := by omega
      have n0 : 0 < k := by omega
      have n1 : 1 < k := by omega
      have n2 : IntKind.i64.wrap ((k : Int) - 2) = ((k - 2 : Nat) : Int) := by rw [IntWalk.i64_in _ (by omega)]; omega
      refine wp_region_held_drew (S := fun W' => Chg [b] w3 W') (by kernel_rfl) (Chg.refl _ _).drew (fun hHeld => ?_)
      obtain ⟨wd, hwd⟩ : ∃ x, x = w3.drew := ⟨_, rfl⟩
      rw [← hwd] at hHeld ⊢
      have CD : Hid (Chg [] w3 wd) := Lib.hid (by rw [hwd]; exact (Chg.refl _ _).drew)
      clear hwd
      refine tk 0 ?va0 ?hya0 ?rsa0
      case hya0 => (intro w9 hSw; go_simp; try with_reducible rfl)
      try simp only [qq]
      refine tk 1 ?va1 ?hya1 ?rsa1
      case hya1 => (intro w9 hSw; go_simp; try with_reducible rfl)
      try simp only [qq]
      refine tk 2 ?va2 ?hya2 ?rsa2
      case hya2 => (intro w9 hSw; go_simp; try with_reducible rfl)
      try simp only [qq]
      refine tk 3 ?va3 ?hya3 ?rsa3
      case hya3 => (intro w9 hSw; have t0 := cell_quiet hSw HT0.out (by have := HBG.out; simp; omega); go_simp; try with_reducible rfl)
      try simp only [qq]
      refine tk 4 ?va4 ?hya4 ?rsa4
      case hya4 => (intro w9 hSw; go_simp; try with_reducible rfl)
      try simp only [qq]
      refine tk 5 ?va5 ?hya5 ?rsa5
      case hya5 => (intro w9 hSw; go_simp; try with_reducible rfl)
      try simp only [qq]
      refine tk 6 ?va6 ?hya6 ?rsa6
      case hya6 => (intro w9 hSw; go_simp; try with_reducible rfl)
      try simp only [qq]
      refine tk 8 ?va8 ?hya8 ?rsa8
      case hya8 => (intro w9 hSw; go_simp; try with_reducible rfl)
      try simp only [qq]
      refine tk 9 ?va9 ?hya9 ?rsa9
      case hya9 => (intro w9 hSw; go_simp; try with_reducible rfl)
      try simp only [qq]
      refine tk 10 ?va10 ?hya10 ?rsa10
      case hya10 => (intro w9 hSw; have t0 := cell_quiet hSw HT1.out (by have := HBG.out; simp; omega); go_simp; try with_reducible rfl)
      try simp only [qq]
      refine tk 11 ?va11 ?hya11 ?rsa11
      case hya11 => (intro w9 hSw; go_simp; try with_reducible rfl)
      try simp only [qq]
      refine tk 12 ?va12 ?hya12 ?rsa12
      case hya12 => (intro w9 hSw; go_simp; try with_reducible rfl)
      try simp only [qq]
      refine tk 13 ?va13 ?hya13 ?rsa13
      case hya13 => (intro w9 hSw; go_simp; try with_reducible rfl)
      try simp only [qq]
      obtain ⟨c0, hc0⟩ : ∃ c, c = Jn.cnt Dg.sum 0 s0 (k - 2) := ⟨_, rfl⟩
      obtain ⟨c1, hc1⟩ : ∃ c, c = Jn.cnt Dg.sum 1 s1 (k - 2) := ⟨_, rfl⟩
      have HC0 := Lib.hid hc0
      have HC1 := Lib.hid hc1
      clear hc0 hc1
      refine rd1 7 (fun K hK => ?_)
      go_simp
      refine count_r (Lib.hid (HL.out.quiet (C3.out.trans CD.out (by simp)))) 0 (k - 2) (by omega) (by omega) s0 HS0.out.2 (fun w4 h4 => ?_)
      rw [← HC0.out]
      have C4 : Hid (Chg [] w3 w4) := Lib.hid (CD.out.trans h4 (by simp))
      clear h4
      refine hK.out _ _ (C4.out.mono (by simp)) (fun hHeld => ?_)
      clear hK K
      try simp only [qq]
      refine rd1 14 (fun K hK => ?_)
      go_simp
      refine count_r (Lib.hid (HL.out.quiet (C3.out.trans C4.out (by simp)))) 1 (k - 2) (by omega) (by omega) s1 HS1.out.2 (fun w5 h5 => ?_)
      rw [← HC1.out]
      have C5 : Hid (Chg [] w3 w5) := Lib.hid (C4.out.trans h5 (by simp))
      clear h5 C4
      refine hK.out _ _ (C5.out.mono (by simp)) (fun hHeld => ?_)
      clear hK K
      try simp only [qq]
      refine tk 15 ?va15 ?hya15 ?rsa15
      case hya15 => (intro w9 hSw; go_simp; try with_reducible rfl)
      try simp only [qq]
      refine tk 16 ?va16 ?hya16 ?rsa16
      case hya16 => (intro w9 hSw; go_simp; try with_reducible rfl)
      try simp only [qq]
      refine tk 17 ?va17 ?hya17 ?rsa17
      case hya17 => (intro w9 hSw; go_simp; try with_reducible rfl)
      try simp only [qq]
      refine rd1 18 (fun K hK => ?_)
      have y1 := (C5.out.blk HJ.out (by simp)).cell (i := 2) rfl
      have y2 := (C5.out.blk HJ.out (by simp)).free 2
      go_simp
      rw [show max (cntV c0) (cntV c1) = cntV (Jn.maxC c0 c1) from cntV_max _ _]
      obtain ⟨cm, hcm⟩ : ∃ c, c = Jn.maxC c0 c1 := ⟨_, rfl⟩
      have HCM := Lib.hid hcm
      rw [← hcm]
      clear hcm
      obtain ⟨w6, h6⟩ : ∃ W, W = w5.setCell ⟨b, 2, none⟩ (.int .i64 (cntV cm)) := ⟨_, rfl⟩
      rw [← h6]
      have HJ6 : Hid (Blk w6 b [.pointer (some ⟨p, 0, none⟩), .int .i64 (k : Int), .int .i64 (cntV cm), .slice none 0 0, .bool false] 53) := Lib.hid (by rw [h6]; exact (C5.out.blk HJ.out (by simp)).set 2 _)
      have C6 : Hid (Chg [b] w3 w6) := Lib.hid ((C5.out.mono (by simp)).trans (by rw [h6]; exact (Chg.refl [b] w5).setCell _ _ (.inl (by simp))) (fun k hk => .inl hk))
      clear h6 y1 y2 C5
      refine hK.out _ _ C6.out (fun hHeld => ?_)
      clear hK K
      try simp only [qq]
      refine wpAnyH_done (by kernel_rfl) ?_ _
      try simp only [qq]
      clear hHeld CD n2 HT0 HT1
      have C06 : Hid (Chg [] w w6) := Lib.hid (C3.out.trans C6.out (fun k hk => .inr (by have h1 := HBG.out; simp only [List.mem_singleton] at hk; omega)))
      have HMX : Hid (Jn.maxC (Jn.cnt Dg.sum 0 (D.cur 0) (D.n - 2)) (Jn.cnt Dg.sum 1 (D.cur 1) (D.n - 2)) = cm) := Lib.hid (by rw [HCM.out, HC0.out, HC1.out, HS0.out.1, HS1.out.1, HN.out])
      have HN3 : Hid (¬ D.n < 3) := Lib.hid (by rw [← HN.out]; exact H3.out)
      cases cm with
      | none =>
        have HOF : Hid (Jn.openJ Dg.sum D = ((25, none), D)) := Lib.hid (openJ_none HON.out HN3.out HMX.out)
        have y1 := HJ6.out.cell (i := 2) rfl
        have z5 : cntV none < 0 := by decide
        go_wp2_with fail
        go_ret3
        exact HRR.out.1 25 D w6 HOF.out (H.out.to C06.out)
      | some c =>
        have hck : c ≤ k - 2 := maxC_le (fun n h => (Jn.cnt_some (HC0.out.symm.trans h)).1) (fun n h => (Jn.cnt_some (HC1.out.symm.trans h)).1) HCM.out.symm
        clear HC0 HC1 HCM
        have HJ6 : Hid (Blk w6 b [.pointer (some ⟨p, 0, none⟩), .int .i64 (k : Int), .int .i64 (c : Int), .slice none 0 0, .bool false] 53) := HJ6
        have y2 := HJ6.out.cell (i := 2) rfl
        have z5 : ¬ (c : Int) < 0 := by omega
        have z6 : 2 + (c : Int) ≤ (k : Int) := by omega
        have z7 : 2 + (c : Int) ≤ (vc : Int) := by omega
        have z8 : (2 : Int) ≤ 2 + (c : Int) := by omega
        have HF6 := Lib.hid (Lib.fresh_isBuilder 58 5 w6)
        go_upto_region 16 with (fail)
        obtain ⟨be, hbe⟩ : ∃ X, X = w6.heap.size := ⟨_, rfl⟩
        rw [← hbe] at HF6 ⊢
        have HBE := Lib.hid hbe
        clear hbe
        obtain ⟨w7, h7⟩ : ∃ W, W = w6.alloc (.cells #[.pointer none, .slice none 0 0] 58) := ⟨_, rfl⟩
        have HF7 : Hid (Lib.IsBuilder 58 5 be be (Lib.byteCells []) w7) := Lib.hid (by rw [h7]; exact HF6.out)
        rw [← h7]
        have C7 : Hid (Chg [] w6 w7) := Lib.hid (by rw [h7]; exact (Chg.refl _ _).alloc _)
        clear h7 HF6
        have y3 := (C7.out.blk HJ6.out (by simp)).cell (i := 2) rfl
        go_wp2_with fail
        go_loopw [75] (fun i wr => ∃ (j : Nat) (t : Bytes), j ≤ c ∧ i = .int .i64 (j : Int) ∧ t.length ≤ 46 * j ∧ Hid (Jn.found Dg.sum D j = some t) ∧ Hid (Lib.IsBuilder 58 5 be be (Lib.byteCells t) wr) ∧ Hid (Chg [] w6 wr)) (fun i _ => c - (intOf i).toNat)
        case atStart => exact ⟨0, [], Nat.zero_le _, rfl, by simp, Lib.hid rfl, HF7, C7⟩
        case round =>
          obtain ⟨j, t, hj, rfl, ht, HFO, HI, HC⟩ := hrel
          by_cases hlt : j < c
          · obtain ⟨x, hx⟩ : ∃ x, x = D.cur (2 + j) := ⟨_, rfl⟩
            have HX : Hid (x = D.cur (2 + j) ∧ x.length = 64) := Lib.hid ⟨hx, by rw [hx]; exact DK.last_len _ _ _ (HOKD.out.st (2 + j) (by rw [← HN.out]; omega)) (fun q hq => (HOKD.out.q q hq).2)⟩
            obtain ⟨sb, hsb⟩ : ∃ z : ByteArray, z = ⟨x.toArray⟩ := ⟨_, rfl⟩
            have HSB := Lib.hid hsb
            have hsz : sb.size = 64 := by rw [hsb]; exact HX.out.2
            have x1 : wr.cell? ⟨g, 2 + j, none⟩ = some (.string sb) := by rw [hsb, hx]; exact cell_quiet (C6.out.trans (HC.out.mono (by simp)) (fun k hk => .inl hk)) (HL3.out (2 + j) (by omega)) (by have := HBG.out; simp; omega)
            have HBAD : Hid (Jn.piece Dg.sum (2 + j) x = none → Jn.openJ Dg.sum D = ((25, none), D)) := Lib.hid (fun hpn => openJ_bad HON.out HN3.out HMX.out (by
              rw [found_none (i := j + 1) (by rw [found_succ HFO.out, ← HX.out.1, hpn]; rfl) c (by omega)]
              rfl))
            have HPL : Hid (Jn.piece Dg.sum (2 + j) x = (match Lib.atoiAll ((x.drop 16).take 2) with | .ok v => if 1 ≤ v ∧ v ≤ 46 ∧ Jn.sector Dg.sum (2 + j) ((x.drop 18).take v.toNat) = x then some ((x.drop 18).take v.toNat) else none | _ => none)) := Lib.hid (Jn.piece_lib Dg.sum_len)
            have z9 : (0 : Int) ≤ (j : Int) := by omega
            have z10 : (j : Int) < (c : Int) := by omega
            have z11 : 2 + j < k := by omega
            clear hsb hx
            go_wp2_with fail
            rw [show sb.extract 16 18 = ⟨((x.drop 16).take 2).toArray⟩ from cutMid44 HSB 16 18 (by decide)]
            obtain ⟨d, hd⟩ : ∃ d, d = (x.drop 16).take 2 := ⟨_, rfl⟩
            rw [← hd] at HPL ⊢
            have hdl : d.length ≤ 2 := by rw [hd, List.length_take]; omega
            clear hd
            have CR : Hid (Chg [] w wr) := Lib.hid (C06.out.trans HC.out (by simp))
            refine atoi_r (Lib.hid (HL.out.quiet CR.out)) d (by omega) (fun v w8 hv h8 => ?_) (fun nn T N w8 hv hnn h8 => ?_)
            · have C8 : Hid (Chg [] wr w8) := Lib.hid h8
              have C8w : Hid (Chg [] w w8) := Lib.hid (CR.out.trans h8 (by simp))
              have HV : Hid (Jn.piece Dg.sum (2 + j) x = if 1 ≤ v ∧ v ≤ 46 ∧ Jn.sector Dg.sum (2 + j) ((x.drop 18).take v.toNat) = x then some ((x.drop 18).take v.toNat) else none) := Lib.hid (by rw [HPL.out, hv])
              have hvb := Lib.atoiAll_bounds hv
              clear h8 hv HPL
              by_cases hv0 : v < 1
              · have HF := Lib.hid (HBAD.out (by rw [HV.out, if_neg (by omega)]))
                go_wp2_with fail
                go_ret3
                exact HRR.out.1 25 D w8 HF.out (H.out.to C8w.out)
              by_cases hvr : 46 < v
              · have HF := Lib.hid (HBAD.out (by rw [HV.out, if_neg (by omega)]))
                go_wp2_with fail
                go_ret3
                exact HRR.out.1 25 D w8 HF.out (H.out.to C8w.out)
              obtain ⟨m, rfl⟩ : ∃ m : Nat, v = (m : Int) := ⟨v.toNat, by omega⟩
              have y4 : (18 : Int) ≤ 18 + (m : Int) := by omega
              have y5 : 18 + (m : Int) ≤ 64 := by omega
              have y6 : (0 : Int) ≤ 18 + (m : Int) := by omega
              have y7 : (18 + (m : Int)).toNat = 18 + m := by omega
              go_wp2_with fail
              obtain ⟨y, hy⟩ : ∃ y, y = (x.drop 18).take m := ⟨_, rfl⟩
              have HYL : Hid (y.length = m) := Lib.hid (by rw [hy, List.length_take, List.length_drop, HX.out.2]; omega)
              have HYE : Hid (sb.extract 18 (18 + m) = ⟨y.toArray⟩) := Lib.hid (by rw [hy]; have h9 := cutMid44 HSB 18 (18 + m) (by omega); rw [Nat.add_sub_cancel_left] at h9; exact h9)
              rw [HYE.out, show (2 + (j : Int)) = ((2 + j : Nat) : Int) from by omega]
              refine sector_r (Lib.hid (HL.out.quiet C8w.out)) (2 + j) y (by omega) (by have := HYL.out; omega) (fun w9 h9 => ?_)
              have C9 : Hid (Chg [] wr w9) := Lib.hid (C8.out.trans h9 (by simp))
              have C9w : Hid (Chg [] w w9) := Lib.hid (C8w.out.trans h9 (by simp))
              obtain ⟨hh, hhh⟩ : ∃ z : ByteArray, z = ⟨(Jn.sector Dg.sum (2 + j) y).toArray⟩ := ⟨_, rfl⟩
              rw [← hhh]
              have HH := Lib.hid hhh
              have HYX : Hid (y = (x.drop 18).take m) := Lib.hid hy
              clear hhh hy h9
              by_cases hc : hh = sb
              · have HF : Hid (Jn.found Dg.sum D (j + 1) = some (t ++ y)) := Lib.hid (by
                  rw [found_succ HFO.out, ← HX.out.1, HV.out, if_pos ⟨by omega, by omega, by
                    have h8 := hc
                    rw [HH.out, HSB.out] at h8
                    injection h8 with h8
                    rw [Int.toNat_natCast, ← HYX.out]
                    exact List.toArray_inj h8⟩, Int.toNat_natCast, ← HYX.out]
                  rfl)
                have HI9 := Lib.hid (bld_quiet HI.out C9.out)
                have HC9 : Hid (Chg [] w6 w9) := Lib.hid (HC.out.trans C9.out (by simp))
                subst hc
                clear HSB HH HV HX
                go_wp2_with fail
                rw [HYE.out]
                have hsy : (⟨y.toArray⟩ : ByteArray).size = m := HYL.out
                refine (writeString_spec be be _ _ w9 HI9.out (by rw [Lib.byteCells_length, hsy]; omega) (by rw [HBE.out]; exact HC9.out.size)).mono ?_
                rintro e w10 ⟨rfl, h3, hb3⟩
                rw [Lib.strCells_eq, ← Lib.byteCells_append] at h3
                rw [HBE.out] at hb3
                have HC10 : Hid (Chg [] w6 w10) := Lib.hid (Below.chg HC9.out hb3)
                have HI10 := Lib.hid h3
                clear h3 hb3
                go_wp2_with fail
                go_roundw
                case rel =>
                  refine ⟨j + 1, t ++ y, by omega, by go_num, by rw [List.length_append, HYL.out]; omega, HF, Lib.hid (.inr ?_), HC10⟩
                  have h9 := HI10.out
                  simpa using h9
                case measure => simp [intOf]; omega
              · have HF := Lib.hid (HBAD.out (by
                  rw [HV.out, if_neg (fun h8 => hc (by rw [HH.out, HSB.out, HYX.out]; have h7 := h8.2.2; rw [Int.toNat_natCast] at h7; rw [h7]))]))
                have en : (hh.toList == sb.toList) = false := by
                  rw [HH.out, HSB.out, ByteArray.toList_mk, ByteArray.toList_mk, beq_eq_false_iff_ne]
                  intro e
                  exact hc (by rw [HH.out, HSB.out, e])
                have fn : (hh.toList != sb.toList) = true := by simp [bne, en]
                go_wp2_with fail
                go_ret3
                exact HRR.out.1 25 D w9 HF.out (H.out.to C9w.out)
            · have C8w : Hid (Chg [] w w8) := Lib.hid (CR.out.trans h8 (by simp))
              have HF := Lib.hid (HBAD.out (by
                rw [HPL.out]
                cases h9 : Lib.atoiAll d using num_cases with
                | ok v => exact absurd h9 (hv v)
                | bad => rfl
                | range => rfl))
              clear h8 hv HPL
              rcases hnn with rfl | rfl | rfl
              · go_wp2_with fail
                go_ret3
                exact HRR.out.1 25 D w8 HF.out (H.out.to C8w.out)
              · go_wp2_with fail
                go_ret3
                exact HRR.out.1 25 D w8 HF.out (H.out.to C8w.out)
              · go_wp2_with fail
                go_ret3
                exact HRR.out.1 25 D w8 HF.out (H.out.to C8w.out)
          · have hjc : j = c := by omega
            subst hjc
            have CR : Hid (Chg [] w wr) := Lib.hid (C06.out.trans HC.out (by simp))
            have z10 : ¬ (j : Int) < (j : Int) := by omega
            go_wp2_with fail
            refine (Tryz.Builder_String_any be be t wr HI.out (by rw [HBE.out]; exact HC.out.size)).mono ?_
            rintro e w11 ⟨rfl, hb3⟩
            rw [HBE.out] at hb3
            have C11 : Hid (Chg [] w6 w11) := Lib.hid (Below.chg HC.out hb3)
            have C11w : Hid (Chg [] w w11) := Lib.hid (C06.out.trans C11.out (by simp))
            clear hb3 HC HI
            go_wp2_with fail
            refine parse44_r (Lib.hid (HL.out.quiet C11w.out)) t (by omega) (fun l v w12 hl ho h12 => ?_) (fun w12 hl h12 => ?_)
            · have HBD : Hid ((Jn.found Dg.sum D j).bind Jn.records = some l) := Lib.hid (by rw [HFO.out]; exact hl)
              have C12 : Hid (Chg [] w w12) := Lib.hid (C11w.out.trans h12 (by simp))
              have HJ12 := Lib.hid (h12.blk (C11.out.blk HJ6.out (by simp)) (by simp))
              have HO12 : Hid (OwT w11.heap.size l v w12) := Lib.hid ho
              have HBW : Hid (b < w11.heap.size) := Lib.hid (by have h1 := HJ6.out.lt; have h2 := C11.out.size; omega)
              have h12s : Hid (w11.heap.size ≤ w12.heap.size) := Lib.hid h12.size
              have h12q := Lib.hid h12
              clear hl ho h12
              obtain ⟨ro, rc, rfl⟩ := HO12.out.form
              obtain ⟨rn, hrn⟩ : ∃ n, n = l.length := ⟨_, rfl⟩
              rw [← hrn] at HO12 ⊢
              clear hrn
              have y8 := HJ12.out.cell (i := 3) rfl
              have y9 := HJ12.out.free 3
              go_upto_region 28 with (fail)
              obtain ⟨w13, h13⟩ : ∃ W, W = w12.setCell ⟨b, 3, none⟩ (.slice ro rn rc) := ⟨_, rfl⟩
              rw [← h13]
              have C13b : Hid (Chg [b] w12 w13) := Lib.hid (by rw [h13]; exact (Chg.refl [b] w12).setCell _ _ (.inl (by simp)))
              have HBE2 : Hid (w.heap.size ≤ b ∧ b ∉ own ∧ b < w13.heap.size ∧ g ∉ own) := Lib.hid (by
                have h1 := HBG.out
                have h2 := HG.out
                have h3 := HBB.out
                refine ⟨h1.2, fun hm => ?_, ?_, fun hm => ?_⟩
                · have := H.out.lt b hm; omega
                · have := HBW.out; have h4 := (h12s).out; have h5 := C13b.out.size; omega
                · have := H.out.lt g hm; omega)
              have C13 : Hid (Chg [] w w13) := Lib.hid (C12.out.trans C13b.out (fun k hk => .inr (by have h1 := HBE2.out.1; simp only [List.mem_singleton] at hk; omega)))
              have HJ13 : Hid (Blk w13 b [.pointer (some ⟨p, 0, none⟩), .int .i64 (k : Int), .int .i64 (j : Int), .slice ro rn rc, .bool false] 53) := Lib.hid (by rw [h13]; exact HJ12.out.set 3 _)
              have HVO : Hid (∀ k, (Value.slice ro rn rc).ownBlock = some k → k ≠ b ∧ k ∉ own ∧ k < w13.heap.size) := Lib.hid (fun k hk => by
                have h1 := HO12.out.ge k hk
                have h2 := HBW.out
                refine ⟨by omega, fun hm => ?_, by have := C13b.out.size; omega⟩
                have := H.out.lt k hm
                have := C11w.out.size
                omega)
              have HO13 : Hid (OwT w.heap.size l (.slice ro rn rc) w13) := Lib.hid ((HO12.out.keep C13b.out (fun k hk => by have := (HVO.out k hk).1; simpa using this)).less C11w.out.size)
              have HS13 : Hid (∀ i, i < 2 → w13.cell? ⟨g, i, none⟩ = some (.string ⟨(D.cur i).toArray⟩)) := Lib.hid (fun i hi => by
                have h1 := cell_quiet (C6.out.trans (C11.out.mono (by simp)) (fun k hk => .inl hk)) (HL3.out i (by omega)) (by have := HBG.out; simp; omega)
                exact cell_quiet C13b.out (cell_quiet h12q.out h1 (by simp)) (by have := HBG.out; simp; omega))
              clear h13 y8 y9 HJ12 HO12 HL3 HCL
              go_wp2_with fail
              go_loopw [119] (fun iv wr => ∃ (i : Nat), i ≤ 2 ∧ iv = .int .i64 (i : Int) ∧ Hid ((∀ m, m ≤ i → (Jn.mendN Dg.sum D j m).1 = 0) ∧ DkTo w13 own p (Jn.mendN Dg.sum D j i).2 wr)) (fun iv _ => 2 - (intOf iv).toNat)
              case atStart => exact ⟨0, by omega, rfl, Lib.hid ⟨fun m hm => by rw [Nat.le_zero.1 hm]; rfl, (H.out.kept C13.out (by simp)).to (Chg.refl _ _)⟩⟩
              case round =>
                obtain ⟨i, hi2, rfl, HMN⟩ := hrel
                obtain ⟨own', hd, hch, hsub⟩ := HMN.out.2
                have HD := Lib.hid hd
                have HCH := Lib.hid hch
                have HSUB := Lib.hid hsub
                clear hd hch hsub
                have HJR := Lib.hid (HCH.out.blk HJ13.out HBE2.out.2.1)
                by_cases hlt : i < 2
                · obtain ⟨s, hs⟩ : ∃ s, s = D.cur i := ⟨_, rfl⟩
                  have HS := Lib.hid hs
                  have HCS : Hid (wr.cell? ⟨g, i, none⟩ = some (.string ⟨s.toArray⟩)) := Lib.hid (by rw [hs]; exact cell_quiet HCH.out (HS13.out i hlt) HBE2.out.2.2.2)
                  clear hs
                  have z20 : (0 : Int) ≤ (i : Int) := by omega
                  have z21 : (i : Int) < 2 := by omega
                  have z22 : i < k := by omega
                  have HLR : Hid (Laid wr) := Lib.hid ((HL.out.quiet C13.out).kept HCH.out HF0.out)
                  have HMN1 : Hid (∀ m, m ≤ i → (Jn.mendN Dg.sum D j m).1 = 0) := Lib.hid HMN.out.1
                  obtain ⟨E, hE⟩ : ∃ E, E = (Jn.mendN Dg.sum D j i).2 := ⟨_, rfl⟩
                  have HEQ : Hid (E.q.length ≤ 1004) := Lib.hid (by rw [hE]; have := Jn.mendN_q (sm := Dg.sum) D j i; omega)
                  have HME : Hid (Jn.mendN Dg.sum D j (i + 1) = Jn.mend Dg.sum E i j s) := Lib.hid (by rw [HS.out, hE]; rfl)
                  rw [← hE] at HD
                  clear hE HMN
                  have HTR : Hid (∀ wx EE, DkTo wr own' p EE wx → DkTo w13 own p EE wx) := Lib.hid (fun wx EE h9 => DkTo.trans HCH.out HSUB.out h9)
                  have c2 := HJR.out.cell (i := 2) rfl
                  go_wp2_with fail
                  refine head44_r HLR i j (by omega) (by omega) (fun wh hh => ?_)
                  have CH : Hid (Chg [] wr wh) := Lib.hid hh
                  obtain ⟨h, hh1⟩ : ∃ h, h = Jn.head Dg.sum i j := ⟨_, rfl⟩
                  rw [← hh1]
                  have HHD := Lib.hid hh1
                  clear hh1 hh c2
                  go_upto_region 32 with (fail)
                  go_cut [148] (fun sv wx => sv = .bool (decide (s = h ∨ (j = 0 ∧ s = Jn.zero))) ∧ Hid (Chg [] wh wx))
                  case first =>
                    have g0 := cell_quiet CH.out HCS.out (by simp)
                    have g1 := (CH.out.blk HJR.out (by simp)).cell (i := 2) rfl
                    by_cases e1 : s = h
                    · have f1 : (s == h) = true := by rw [e1]; exact beq_self_eq_true _
                      have HE1 := Lib.hid e1
                      clear e1
                      go_quiet (fail)
                      go_wp2_with fail
                      go_meet
                      exact ⟨by rw [decide_eq_true (Or.inl HE1.out)], Lib.hid (chg_drew44 _ _)⟩
                    · have f1 : (s == h) = false := by rw [beq_eq_false_iff_ne]; exact e1
                      have HE1 := Lib.hid e1
                      clear e1
                      by_cases e2 : j = 0
                      · have HE2 := Lib.hid e2
                        have f2 : ((j : Int) == 0) = true := by rw [beq_iff_eq]; omega
                        have f3 : (j == 0) = true := by rw [beq_iff_eq]; exact e2
                        clear e2
                        by_cases e3 : s = Jn.zero
                        · have f4 : (s == Jn.zero) = true := by rw [e3]; exact beq_self_eq_true _
                          have HE3 := Lib.hid e3
                          clear e3
                          refine wp_region_held_drew (S := fun W' => Chg [] wh W') (by kernel_rfl) (Chg.refl _ _).drew (fun hHeld => ?_)
                          obtain ⟨wd, hwd⟩ : ∃ x, x = wh.drew := ⟨_, rfl⟩
                          rw [← hwd] at hHeld ⊢
                          clear hwd
                          refine tk 0 ?vb0 ?hyb0 ?rsb0
                          case hyb0 => (intro w9 hSw; go_simp; try with_reducible rfl)
                          try simp only [qq]
                          refine tk 1 ?vb1 ?hyb1 ?rsb1
                          case hyb1 => (intro w9 hSw; go_simp; try with_reducible rfl)
                          try simp only [qq]
                          refine tk 2 ?vb2 ?hyb2 ?rsb2
                          case hyb2 => (intro w9 hSw; go_simp; try with_reducible rfl)
                          try simp only [qq]
                          refine tk 3 ?vb3 ?hyb3 ?rsb3
                          case hyb3 => (intro w9 hSw; have t0 := cell_quiet hSw g0 (by simp); go_simp; try with_reducible rfl)
                          try simp only [qq]
                          refine tk 4 ?vb4 ?hyb4 ?rsb4
                          case hyb4 => (intro w9 hSw; go_simp; try with_reducible rfl)
                          try simp only [qq]
                          refine tk 5 ?vb5 ?hyb5 ?rsb5
                          case hyb5 => (intro w9 hSw; go_simp; try with_reducible rfl)
                          try simp only [qq]
                          refine tk 6 ?vb6 ?hyb6 ?rsb6
                          case hyb6 => (intro w9 hSw; go_simp; try with_reducible rfl)
                          try simp only [qq]
                          refine tk 7 ?vb7 ?hyb7 ?rsb7
                          case hyb7 => (intro w9 hSw; go_simp; try with_reducible rfl)
                          try simp only [qq]
                          refine tk 8 ?vb8 ?hyb8 ?rsb8
                          case hyb8 => (intro w9 hSw; go_simp; try with_reducible rfl)
                          try simp only [qq]
                          refine tk 9 ?vb9 ?hyb9 ?rsb9
                          case hyb9 => (intro w9 hSw; go_simp; try with_reducible rfl)
                          try simp only [qq]
                          refine tk 10 ?vb10 ?hyb10 ?rsb10
                          case hyb10 => (intro w9 hSw; have t0 := cell_quiet hSw g1 (by simp); go_simp; try with_reducible rfl)
                          try simp only [qq]
                          refine tk 11 ?vb11 ?hyb11 ?rsb11
                          case hyb11 => (intro w9 hSw; go_simp; try with_reducible rfl)
                          try simp only [qq]
                          refine tk 12 ?vb12 ?hyb12 ?rsb12
                          case hyb12 => (intro w9 hSw; go_simp; try with_reducible rfl)
                          try simp only [qq]
                          refine tk 13 ?vb13 ?hyb13 ?rsb13
                          case hyb13 => (intro w9 hSw; go_simp; try with_reducible rfl)
                          try simp only [qq]
                          refine tk 14 ?vb14 ?hyb14 ?rsb14
                          case hyb14 => (intro w9 hSw; go_simp; try with_reducible rfl)
                          try simp only [qq]
                          refine tk 15 ?vb15 ?hyb15 ?rsb15
                          case hyb15 => (intro w9 hSw; go_simp; try with_reducible rfl)
                          try simp only [qq]
                          refine tk 16 ?vb16 ?hyb16 ?rsb16
                          case hyb16 => (intro w9 hSw; have t0 := cell_quiet hSw g0 (by simp); go_simp; try with_reducible rfl)
                          try simp only [qq]
                          refine rd1 17 (fun K hK => ?_)
                          go_simp
                          refine zero_r (fun wx hcx => ?_)
                          have CX9 : Hid (Chg [] wh wx) := Lib.hid (hHeld.trans hcx (by simp))
                          clear hcx
                          refine hK.out _ _ CX9.out (fun hHeld => ?_)
                          clear hK K
                          try simp only [qq]
                          refine tk 18 ?vb18 ?hyb18 ?rsb18
                          case hyb18 => (intro w9 hSw; go_simp; try with_reducible rfl)
                          try simp only [qq]
                          refine tk 19 ?vb19 ?hyb19 ?rsb19
                          case hyb19 => (intro w9 hSw; go_simp; try with_reducible rfl)
                          try simp only [qq]
                          refine tk 20 ?vb20 ?hyb20 ?rsb20
                          case hyb20 => (intro w9 hSw; go_simp; try with_reducible rfl)
                          try simp only [qq]
                          refine wpAnyH_done (by kernel_rfl) ?_ _
                          try simp only [qq]
                          go_wp2_with fail
                          go_meet
                          exact ⟨by rw [decide_eq_true (Or.inr ⟨HE2.out, HE3.out⟩)], CX9⟩
                        · have f4 : (s == Jn.zero) = false := by rw [beq_eq_false_iff_ne]; exact e3
                          have HE3 := Lib.hid e3
                          clear e3
                          refine wp_region_held_drew (S := fun W' => Chg [] wh W') (by kernel_rfl) (Chg.refl _ _).drew (fun hHeld => ?_)
                          obtain ⟨wd, hwd⟩ : ∃ x, x = wh.drew := ⟨_, rfl⟩
                          rw [← hwd] at hHeld ⊢
                          clear hwd
                          refine tk 0 ?vd0 ?hyd0 ?rsd0
                          case hyd0 => (intro w9 hSw; go_simp; try with_reducible rfl)
                          try simp only [qq]
                          refine tk 1 ?vd1 ?hyd1 ?rsd1
                          case hyd1 => (intro w9 hSw; go_simp; try with_reducible rfl)
                          try simp only [qq]
                          refine tk 2 ?vd2 ?hyd2 ?rsd2
                          case hyd2 => (intro w9 hSw; go_simp; try with_reducible rfl)
                          try simp only [qq]
                          refine tk 3 ?vd3 ?hyd3 ?rsd3
                          case hyd3 => (intro w9 hSw; have t0 := cell_quiet hSw g0 (by simp); go_simp; try with_reducible rfl)
                          try simp only [qq]
                          refine tk 4 ?vd4 ?hyd4 ?rsd4
                          case hyd4 => (intro w9 hSw; go_simp; try with_reducible rfl)
                          try simp only [qq]
                          refine tk 5 ?vd5 ?hyd5 ?rsd5
                          case hyd5 => (intro w9 hSw; go_simp; try with_reducible rfl)
                          try simp only [qq]
                          refine tk 6 ?vd6 ?hyd6 ?rsd6
                          case hyd6 => (intro w9 hSw; go_simp; try with_reducible rfl)
                          try simp only [qq]
                          refine tk 7 ?vd7 ?hyd7 ?rsd7
                          case hyd7 => (intro w9 hSw; go_simp; try with_reducible rfl)
                          try simp only [qq]
                          refine tk 8 ?vd8 ?hyd8 ?rsd8
                          case hyd8 => (intro w9 hSw; go_simp; try with_reducible rfl)
                          try simp only [qq]
                          refine tk 9 ?vd9 ?hyd9 ?rsd9
                          case hyd9 => (intro w9 hSw; go_simp; try with_reducible rfl)
                          try simp only [qq]
                          refine tk 10 ?vd10 ?hyd10 ?rsd10
                          case hyd10 => (intro w9 hSw; have t0 := cell_quiet hSw g1 (by simp); go_simp; try with_reducible rfl)
                          try simp only [qq]
                          refine tk 11 ?vd11 ?hyd11 ?rsd11
                          case hyd11 => (intro w9 hSw; go_simp; try with_reducible rfl)
                          try simp only [qq]
                          refine tk 12 ?vd12 ?hyd12 ?rsd12
                          case hyd12 => (intro w9 hSw; go_simp; try with_reducible rfl)
                          try simp only [qq]
                          refine tk 13 ?vd13 ?hyd13 ?rsd13
                          case hyd13 => (intro w9 hSw; go_simp; try with_reducible rfl)
                          try simp only [qq]
                          refine tk 14 ?vd14 ?hyd14 ?rsd14
                          case hyd14 => (intro w9 hSw; go_simp; try with_reducible rfl)
                          try simp only [qq]
                          refine tk 15 ?vd15 ?hyd15 ?rsd15
                          case hyd15 => (intro w9 hSw; go_simp; try with_reducible rfl)
                          try simp only [qq]
                          refine tk 16 ?vd16 ?hyd16 ?rsd16
                          case hyd16 => (intro w9 hSw; have t0 := cell_quiet hSw g0 (by simp); go_simp; try with_reducible rfl)
                          try simp only [qq]
                          refine rd1 17 (fun K hK => ?_)
                          go_simp
                          refine zero_r (fun wx hcx => ?_)
                          have CX9 : Hid (Chg [] wh wx) := Lib.hid (hHeld.trans hcx (by simp))
                          clear hcx
                          refine hK.out _ _ CX9.out (fun hHeld => ?_)
                          clear hK K
                          try simp only [qq]
                          refine tk 18 ?vd18 ?hyd18 ?rsd18
                          case hyd18 => (intro w9 hSw; go_simp; try with_reducible rfl)
                          try simp only [qq]
                          refine tk 19 ?vd19 ?hyd19 ?rsd19
                          case hyd19 => (intro w9 hSw; go_simp; try with_reducible rfl)
                          try simp only [qq]
                          refine tk 20 ?vd20 ?hyd20 ?rsd20
                          case hyd20 => (intro w9 hSw; go_simp; try with_reducible rfl)
                          try simp only [qq]
                          refine wpAnyH_done (by kernel_rfl) ?_ _
                          try simp only [qq]
                          go_wp2_with fail
                          go_meet
                          exact ⟨by rw [decide_eq_false (fun h9 => h9.elim HE1.out (fun h8 => HE3.out h8.2))], CX9⟩
                      · have f2 : ((j : Int) == 0) = false := by rw [beq_eq_false_iff_ne]; omega
                        have HE2 := Lib.hid e2
                        have f3 : (j == 0) = false := by rw [beq_eq_false_iff_ne]; omega
                        go_quiet (fail)
                        go_wp2_with fail
                        go_meet
                        exact ⟨by rw [decide_eq_false (fun h9 => h9.elim HE1.out (fun h8 => HE2.out h8.1))], Lib.hid (chg_drew44 _ _)⟩
                  case rest =>
                    obtain ⟨rfl, HCX⟩ := hcut
                    have CWC : Hid (Chg [] wr wc) := Lib.hid (CH.out.trans HCX.out (by simp))
                    have HFAIL : Hid (∀ rr EE wf, Jn.mendN Dg.sum D j (i + 1) = (rr, EE) → rr ≠ 0 → DkTo w13 own p EE wf → R (.returned (.tuple #[.pointer none, .slice none 0 0, .int .i64 rr])) wf) := Lib.hid (fun rr EE wf h1 h2 h3 =>
                      HRR.out.1 rr EE wf (openJ_stop HON.out HN3.out HMX.out HBD.out hlt HMN1.out h1 h2) (DkTo.trans (C13.out.mono (by simp)) (fun k hk => .inl hk) h3))
                    have HNEXT : Hid (∀ EE wf, Jn.mendN Dg.sum D j (i + 1) = (0, EE) → DkTo w13 own p EE wf → (∀ m, m ≤ i + 1 → (Jn.mendN Dg.sum D j m).1 = 0) ∧ DkTo w13 own p (Jn.mendN Dg.sum D j (i + 1)).2 wf) := Lib.hid (fun EE wf h1 h2 =>
                      ⟨fun m hm => by
                        rcases Nat.lt_or_ge m (i + 1) with h3 | h3
                        · exact HMN1.out m (by omega)
                        · have : m = i + 1 := by omega
                          rw [this, h1], by rw [h1]; exact h2⟩)
                    by_cases hd : s = h ∨ (j = 0 ∧ s = Jn.zero)
                    · have HM1 : Hid (Jn.mendN Dg.sum D j (i + 1) = (0, E)) := Lib.hid (by
                        rw [HME.out]
                        unfold Jn.mend
                        rw [← HHD.out, if_pos hd])
                      rw [decide_eq_true hd]
                      clear hd
                      go_wp2_with fail
                      go_roundw
                      case rel => exact ⟨i + 1, by omega, by go_num, Lib.hid (HNEXT.out E _ HM1.out (HTR.out _ _ (HD.out.to CWC.out)))⟩
                      case measure => simp [intOf]; omega
                    · rw [decide_eq_false hd]
                      have HNO := Lib.hid hd
                      clear hd
                      go_wp2_with fail
                      refine zero_r (fun wz hz => ?_)
                      have CZ : Hid (Chg [] wr wz) := Lib.hid (CWC.out.trans hz (by simp))
                      clear hz
                      have CZ2 : Hid (Chg [] wr (wz.alloc (.cells #[.string ⟨Jn.zero.toArray⟩] 9))) := Lib.hid (CZ.out.alloc _)
                      have HZJ : Hid ((wz.alloc (.cells #[.string ⟨Jn.zero.toArray⟩] 9)).cell? ⟨b, 0, none⟩ = some (.pointer (some ⟨p, 0, none⟩))) := Lib.hid (cell_quiet CZ2.out (HJR.out.cell (i := 0) rfl) (by simp))
                      have HBO : Hid (∀ own9 : List Nat, (∀ k ∈ own9, k ∈ own ∨ w13.heap.size ≤ k) → b ∉ own9) := Lib.hid (fun own9 h9 hm => by
                        rcases h9 b hm with h8 | h8
                        · exact HBE2.out.2.1 h8
                        · have := HBE2.out.2.2.1; omega)
                      obtain ⟨r1, hr1⟩ : ∃ r, r = (Jn.put E i [Jn.zero]).1 := ⟨_, rfl⟩
                      obtain ⟨E1, hE1⟩ : ∃ r, r = (Jn.put E i [Jn.zero]).2 := ⟨_, rfl⟩
                      have HR1 := Lib.hid hr1
                      have HE1 := Lib.hid hE1
                      have HEQ1 : Hid (E1.q.length ≤ 1005) := Lib.hid (by rw [hE1]; have h1 := Jn.put_q [Jn.zero] E i; have h2 := HEQ.out; simp only [List.length_singleton] at h1; omega)
                      clear hr1 hE1
                      go_wp2_with fail
                      refine jwrite_r (Lib.hid (HD.out.kept CZ2.out (by simp))) HZJ (HBO.out own' HSUB.out) i [Jn.zero] _ (Lib.hid (strs_one wz Jn.zero)) (Lib.hid (fun ad n c h9 hm => by
                        have h8 := HD.out.lt _ hm
                        have h7 := CZ.out.size
                        injection h9 with h9
                        injection h9 with h9
                        subst h9
                        simp only at h8
                        omega)) (by have := HEQ.out; simp only [List.length_singleton]; omega) (by simp only [List.length_singleton]; omega) (fun w20 h20 => ?_)
                      rw [← HR1.out]
                      rw [← HE1.out] at h20
                      have T20 : Hid (DkTo w13 own p E1 w20) := Lib.hid (HTR.out _ _ (DkTo.trans (CZ2.out.mono (by simp)) (fun k hk => .inl hk) h20))
                      clear h20
                      by_cases hr1 : r1 = 0
                      · by_cases hj0 : j = 0
                        · have HM1 : Hid (Jn.mendN Dg.sum D j (i + 1) = (0, E1)) := Lib.hid (by
                            rw [HME.out]
                            unfold Jn.mend
                            rw [← HHD.out, if_neg HNO.out, if_pos (Or.inr hj0), HE1.out, ← hr1, HR1.out])
                          have c9 := (T20.out.choose_spec.2.1.blk HJ13.out HBE2.out.2.1).cell (i := 2) rfl
                          have q1 : (r1 == 0) = true := by rw [beq_iff_eq]; exact hr1
                          have q2 : ¬ (0 : Int) < (j : Int) := by omega
                          have HR0 := Lib.hid hr1
                          clear hj0 hr1
                          go_wp2_with fail
                          go_roundw
                          case rel => exact ⟨i + 1, by omega, by go_num, Lib.hid (HNEXT.out E1 _ HM1.out T20.out)⟩
                          case measure => simp [intOf]; omega
                        · have HM0 : Hid (Jn.mendN Dg.sum D j (i + 1) = Jn.put E1 i [h]) := Lib.hid (by
                            rw [HME.out]
                            unfold Jn.mend
                            rw [← HHD.out, if_neg HNO.out, if_neg (fun h9 => h9.elim (fun h8 => h8 (by rw [← HR1.out]; exact hr1)) hj0), HE1.out])
                          obtain ⟨own2, hd2, hch2, hsub2⟩ := T20.out
                          have HD2 := Lib.hid hd2
                          have HCH2 := Lib.hid hch2
                          have HSUB2 := Lib.hid hsub2
                          clear hd2 hch2 hsub2
                          have HJR2 := Lib.hid (HCH2.out.blk HJ13.out HBE2.out.2.1)
                          have c9 := HJR2.out.cell (i := 2) rfl
                          have q1 : (r1 == 0) = true := by rw [beq_iff_eq]; exact hr1
                          have q2 : (0 : Int) < (j : Int) := by omega
                          clear hj0 hr1
                          obtain ⟨r2, hr2⟩ : ∃ r, r = (Jn.put E1 i [h]).1 := ⟨_, rfl⟩
                          obtain ⟨E2, hE2⟩ : ∃ r, r = (Jn.put E1 i [h]).2 := ⟨_, rfl⟩
                          have HR2 := Lib.hid hr2
                          have HE2 := Lib.hid hE2
                          clear hr2 hE2
                          have CY2 : Hid (Chg [] w20 (w20.alloc (.cells #[.string ⟨h.toArray⟩] 9))) := Lib.hid ((Chg.refl _ _).alloc _)
                          have HYJ : Hid ((w20.alloc (.cells #[.string ⟨h.toArray⟩] 9)).cell? ⟨b, 0, none⟩ = some (.pointer (some ⟨p, 0, none⟩))) := Lib.hid (cell_quiet CY2.out (HJR2.out.cell (i := 0) rfl) (by simp))
                          go_wp2_with fail
                          refine jwrite_r (Lib.hid (HD2.out.kept CY2.out (by simp))) HYJ (HBO.out own2 HSUB2.out) i [h] _ (Lib.hid (strs_one w20 h)) (Lib.hid (fun ad n c h9 hm => by
                            have h8 := HD2.out.lt _ hm
                            injection h9 with h9
                            injection h9 with h9
                            subst h9
                            simp only at h8
                            omega)) (by have := HEQ1.out; simp only [List.length_singleton]; omega) (by simp only [List.length_singleton]; omega) (fun w21 h21 => ?_)
                          rw [← HR2.out]
                          rw [← HE2.out] at h21
                          have T21 : Hid (DkTo w13 own p E2 w21) := Lib.hid (DkTo.trans HCH2.out HSUB2.out (DkTo.trans (CY2.out.mono (by simp)) (fun k hk => .inl hk) h21))
                          clear h21
                          by_cases hr2 : r2 = 0
                          · have HM1 : Hid (Jn.mendN Dg.sum D j (i + 1) = (0, E2)) := Lib.hid (by rw [HM0.out, HE2.out, ← hr2, HR2.out])
                            have q3 : (r2 != 0) = false := by rw [hr2]; rfl
                            clear hr2
                            go_wp2_with fail
                            go_roundw
                            case rel => exact ⟨i + 1, by omega, by go_num, Lib.hid (HNEXT.out E2 _ HM1.out T21.out)⟩
                            case measure => simp [intOf]; omega
                          · have HM1 : Hid (Jn.mendN Dg.sum D j (i + 1) = (r2, E2)) := Lib.hid (by rw [HM0.out, HE2.out, HR2.out])
                            have q3 : (r2 != 0) = true := by rw [bne_iff_ne]; exact hr2
                            have HR9 := Lib.hid hr2
                            clear hr2
                            go_wp2_with fail
                            go_ret3
                            exact HFAIL.out r2 E2 w21 HM1.out HR9.out T21.out
                      · have HM1 : Hid (Jn.mendN Dg.sum D j (i + 1) = (r1, E1)) := Lib.hid (by
                          rw [HME.out]
                          unfold Jn.mend
                          rw [← HHD.out, if_neg HNO.out, if_pos (Or.inl (by rw [← HR1.out]; exact hr1)), HE1.out, HR1.out])
                        have q1 : (r1 == 0) = false := by rw [beq_eq_false_iff_ne]; exact hr1
                        have q3 : (r1 != 0) = true := by rw [bne_iff_ne]; exact hr1
                        have HR9 := Lib.hid hr1
                        clear hr1
                        go_wp2_with fail
                        go_ret3
                        exact HFAIL.out r1 E1 w20 HM1.out HR9.out T20.out
                · have hi : i = 2 := by omega
                  subst hi
                  obtain ⟨E, hE⟩ : ∃ E, E = (Jn.mendN Dg.sum D j 2).2 := ⟨_, rfl⟩
                  have HOP : Hid (Jn.openJ Dg.sum D = ((0, some ⟨D.n, j, l, false⟩), E)) := Lib.hid (by rw [hE]; exact openJ_end HON.out HN3.out HMX.out HBD.out HMN.out.1)
                  rw [← hE] at HD
                  clear hE HMN
                  have HOR : Hid (OwT w.heap.size l (.slice ro rn rc) wr) := Lib.hid (HO13.out.keep HCH.out (fun k hk => (HVO.out k hk).2.1))
                  have HLL : Hid (l.length ≤ 1000000) := Lib.hid (by
                    have h1 := HBD.out
                    rw [HFO.out] at h1
                    have h2 := parse_count _ t l h1
                    omega)
                  have c3 := HJR.out.cell (i := 3) rfl
                  go_wp2_with fail
                  refine clone_r (.slice ro rn rc) l (Lib.hid HOR.out.strs) HLL.out (fun v' w20 ho' h20 => ?_)
                  have C20 : Hid (Chg own w13 w20) := Lib.hid (HCH.out.trans (h20.mono (by simp)) (fun k hk => .inl hk))
                  go_wp2_with fail
                  go_ret3
                  refine HRR.out.2 ⟨D.n, j, l, false⟩ E b own' (.slice ro rn rc) v' w20 HOP.out (HD.out.kept h20 (by simp)) ((C13.out.mono (by simp)).trans C20.out (fun k hk => .inl hk)) (fun k hk => ?_) ⟨?_, ?_⟩ ?_ HBE2.out.1 ?_ ?_ ?_
                  · rcases HSUB.out k hk with h1 | h1
                    · exact .inl h1
                    · exact .inr (by have := C13.out.size; omega)
                  · have h1 := C20.out.blk HJ13.out HBE2.out.2.1
                    rw [HN.out] at h1
                    exact h1
                  · exact HOR.out.keep h20 (by simp)
                  · exact ho'.less (by have h1 := C13.out.size; have h2 := HCH.out.size; omega)
                  · intro hm
                    rcases HSUB.out b hm with h8 | h8
                    · exact HBE2.out.2.1 h8
                    · have := HBE2.out.2.2.1; omega
                  · intro k hk
                    have h1 := HVO.out k hk
                    refine ⟨fun hm => ?_, h1.1⟩
                    rcases HSUB.out k hm with h8 | h8
                    · exact h1.2.1 h8
                    · omega
                  · intro k hk
                    have h1 := (ho'.ge k hk).1
                    refine ⟨fun hm => ?_, ?_, fun hv => ?_⟩
                    · have := HD.out.lt k hm; omega
                    · have h2 := HJR.out.lt; omega
                    · have h2 := (HOR.out.ge k hv).2; omega
            · have HBD : Hid ((Jn.found Dg.sum D j).bind Jn.records = none) := Lib.hid (by rw [HFO.out]; exact hl)
              have HF := Lib.hid (openJ_bad HON.out HN3.out HMX.out HBD.out)
              have C12 : Hid (Chg [] w w12) := Lib.hid (C11w.out.trans h12 (by simp))
              have HJ12 := Lib.hid (h12.blk (C11.out.blk HJ6.out (by simp)) (by simp))
              clear hl h12
              have y8 := HJ12.out.cell (i := 3) rfl
              have y9 := HJ12.out.free 3
              go_wp2_with fail
              go_ret3
              refine HRR.out.1 25 D _ HF.out (H.out.to (C12.out.trans ((Chg.refl [b] w12).setCell _ _ (.inl (by simp))) (fun k hk => .inr ?_)))
              have h1 := HBG.out
              simp only [List.mem_singleton] at hk
              omega
end Go.Proofs.YtpmkgedlnanjiaaGreatDoor
