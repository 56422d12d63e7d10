/-
  JuD, JuE in one text.
-/
import Derived.Test.YtpmkgedlnanjiaaGreatDoorJuB
import Derived.Test.YtpmkgedlnanjiaaGreatDoorJsF
import Derived.Test.YtpmkgedlnanjiaaGreatDoorJuC
import Derived.Test.YtpmkgedlnanjiaaGreatDoorJnF
import Derived.Lib.AppendStr
namespace Go.Proofs.YtpmkgedlnanjiaaGreatDoor
set_option linter.unusedVariables false
set_option linter.unusedSimpArgs false
set_option maxRecDepth 100000
open Go Go.RowKit
attribute [local go_sem ↓] Go.wp_at_zero Go.wp_at_succ
attribute [local irreducible] Go.wpStill
/-- Places one after another that can be read. -/
def Pls (w : World) (v : Value) (p n : Nat) : Prop := ∃ ao cap, v = .slice ao n cap ∧ n ≤ cap ∧ ∀ i, i < n → ∃ g off, ao = some ⟨g, off, none⟩ ∧ w.cell? ⟨g, off + i, none⟩ = some (.int .i64 ((p + i : Nat) : Int))
set_option maxHeartbeats 4000000 in
theorem rjwrite_r {w : World} {own : List Nat} {b p : Nat} {D : DK} (H : Hid (RfAt w own p D)) (HJ : Hid (w.cell? ⟨b, 0, none⟩ = some (.pointer (some ⟨p, 0, none⟩)))) (hb : b ∉ own) (pl : Nat) (l : List Bytes) (pv v : Value) (HP : Hid (Pls w pv pl l.length)) (HKP : Hid (offV pv own)) (HV : Hid (Strs w v l)) (HK : Hid (offV v own))
    (hq : D.q.length + l.length ≤ 900000) (hl : pl + l.length ≤ 1000000) {R : Ending → World → Prop} (h : ∀ w', RfTo w own p (Jn.put D pl l).2 w' → R (.returned (.int .i64 (Jn.put D pl l).1)) w') :
    Calls Tryz.prog 60 #[.pointer (some ⟨b, 0, none⟩), pv, v] w R := by
  have HRR := Lib.hid h
  clear h
  have HBN := Lib.hid hb
  clear hb
  obtain ⟨ao, cap, rfl, hle, hv⟩ := HV.out
  obtain ⟨po, pc, rfl, hlp, hp⟩ := HP.out
  have HE := Lib.hid hv
  have HPE := Lib.hid hp
  obtain ⟨n, hn⟩ : ∃ n, n = l.length := ⟨_, rfl⟩
  rw [← hn] at hq hl hle hlp HK HKP HPE ⊢
  have HN := Lib.hid hn
  clear hv hp hn HV HP
  go_enter Tryz.func60, Tryz.ntmps60
  go_wp2_with fail
  go_loopw [7] (fun iv wr => ∃ k : Nat, k ≤ n ∧ iv = .int .i64 (k : Int) ∧ Hid ((Jn.writes D pl (l.take k)).1 = 0) ∧ Hid (RfTo w own p (Jn.writes D pl (l.take k)).2 wr)) (fun iv _ => n - (intOf iv).toNat)
  case atStart => exact ⟨0, Nat.zero_le _, rfl, Lib.hid rfl, Lib.hid (H.out.to (Chg.refl _ _))⟩
  case round =>
    obtain ⟨k, hk, rfl, HW, HD⟩ := hrel
    obtain ⟨E, hE⟩ : ∃ E, E = (Jn.writes D pl (l.take k)).2 := ⟨_, rfl⟩
    have HEE := Lib.hid hE
    rw [← hE] at HD
    clear hE
    obtain ⟨own1, d1, d2, d3⟩ := HD.out
    have HD1 := Lib.hid d1
    have HD2 := Lib.hid d2
    have HD3 := Lib.hid d3
    have hqe : E.q.length ≤ D.q.length + k := by
      rw [HEE.out]
      have := Jn.writes_q (l.take k) D pl
      rw [List.length_take, ← HN.out] at this
      omega
    have hbl := block_lt_of_cell HJ.out
    have HBN1 : Hid (b ∉ own1) := Lib.hid (fun hm => by rcases d3 b hm with h1 | h1; exact HBN.out h1; (have h2 : b < w.heap.size := hbl; omega))
    have c0 : wr.cell? ⟨b, 0, none⟩ = some (.pointer (some ⟨p, 0, none⟩)) := cell_quiet d2 HJ.out HBN.out
    clear d1 d2 d3 hbl
    by_cases hlt : k < n
    · obtain ⟨x, hx⟩ : ∃ x, l[k]? = some x := ⟨l[k]'(by rw [← HN.out]; exact hlt), by simp⟩
      obtain ⟨g, off, rfl, hc⟩ := HE.out k x hx
      obtain ⟨g2, off2, rfl, hc2⟩ := HPE.out k hlt
      have c2 := cell_quiet HD2.out hc (HK.out ⟨g, off, none⟩ _ _ rfl)
      have c1 := cell_quiet HD2.out hc2 (HKP.out ⟨g2, off2, none⟩ _ _ rfl)
      have HGV1 : Hid (g ∉ own1) := Lib.hid (fun hm => by rcases HD3.out g hm with h1 | h1; exact HK.out ⟨g, off, none⟩ _ _ rfl h1; (have h2 : g < w.heap.size := block_lt_of_cell hc; omega))
      have HGP1 : Hid (g2 ∉ own1) := Lib.hid (fun hm => by rcases HD3.out g2 hm with h1 | h1; exact HKP.out ⟨g2, off2, none⟩ _ _ rfl h1; (have h2 : g2 < w.heap.size := block_lt_of_cell hc2; omega))
      have HX := Lib.hid hx
      have q0 : (0 : Int) ≤ (k : Int) := by omega
      have q1 : (k : Int) < (n : Int) := by omega
      have q2 : (k : Int) ≤ (cap : Int) := by omega
      have q3 : (k : Int) ≤ (pc : Int) := by omega
      obtain ⟨pk, hpk⟩ : ∃ z, z = pl + k := ⟨_, rfl⟩
      rw [← hpk] at c1
      have HPK := Lib.hid hpk
      clear hx hc hc2 hpk
      go_upto_region 4 with (fail)
      refine wp_region_held_drew (S := fun W' => Chg own1 wr W') (by kernel_rfl) ((Chg.refl _ _).drew) (fun hHeld => ?_)
      obtain ⟨wd, hwd⟩ : ∃ x, x = wr.drew := ⟨_, rfl⟩
      rw [← hwd] at hHeld ⊢
      have CD : Hid (Chg [] wr wd) := Lib.hid (by rw [hwd]; exact (Chg.refl _ _).drew)
      clear hwd
      refine tk 0 ?va0 ?hya0 ?rsa0
      case hya0 => (intro w9 hSw; go_simp; try with_reducible rfl)
      try simp only [qq]
      refine tk 1 ?va1 ?hya1 ?rsa1
      case hya1 => (intro w9 hSw; go_simp; try with_reducible rfl)
      try simp only [qq]
      refine tk 2 ?va2 ?hya2 ?rsa2
      case hya2 => (intro w9 hSw; go_simp; try with_reducible rfl)
      try simp only [qq]
      refine tk 3 ?va3 ?hya3 ?rsa3
      case hya3 => (intro w9 hSw; have t0 := cell_quiet hSw c0 HBN1.out; go_simp; try with_reducible rfl)
      try simp only [qq]
      refine tk 4 ?va4 ?hya4 ?rsa4
      case hya4 => (intro w9 hSw; go_simp; try with_reducible rfl)
      try simp only [qq]
      refine tk 5 ?va5 ?hya5 ?rsa5
      case hya5 => (intro w9 hSw; go_simp; try with_reducible rfl)
      try simp only [qq]
      refine tk 6 ?va6 ?hya6 ?rsa6
      case hya6 => (intro w9 hSw; go_simp; try with_reducible rfl)
      try simp only [qq]
      refine tk 7 ?va7 ?hya7 ?rsa7
      case hya7 => (intro w9 hSw; have t0 := cell_quiet hSw c1 HGP1.out; go_simp; try with_reducible rfl)
      try simp only [qq]
      refine tk 8 ?va8 ?hya8 ?rsa8
      case hya8 => (intro w9 hSw; go_simp; try with_reducible rfl)
      try simp only [qq]
      refine tk 9 ?va9 ?hya9 ?rsa9
      case hya9 => (intro w9 hSw; go_simp; try with_reducible rfl)
      try simp only [qq]
      refine tk 10 ?va10 ?hya10 ?rsa10
      case hya10 => (intro w9 hSw; go_simp; try with_reducible rfl)
      try simp only [qq]
      refine tk 11 ?va11 ?hya11 ?rsa11
      case hya11 => (intro w9 hSw; have t0 := cell_quiet hSw c2 HGV1.out; go_simp; try with_reducible rfl)
      try simp only [qq]
      refine rd1 12 (fun K hK => ?_)
      go_simp
      obtain ⟨X, hX⟩ : ∃ X, X = E.write (pk : Int) x := ⟨_, rfl⟩
      have HXE := Lib.hid hX
      refine (rwrite_spec (HD1.out.kept CD.out (by simp)) (by omega) (pk : Int) ⟨x.toArray⟩).mono ?_
      rintro e w5 ⟨rfl, h5⟩
      rw [show (⟨x.toArray⟩ : ByteArray).data.toList = x from rfl, ← hX] at h5 ⊢
      obtain ⟨own5, h51, h52, h53⟩ := h5
      have HC5 : Hid (Chg own1 wr w5) := Lib.hid ((CD.out.mono (by simp)).trans h52 (fun q hq => .inl hq))
      have H5 : Hid (RfTo w own p X.2 w5) := Lib.hid (RfTo.trans HD2.out HD3.out ⟨own5, h51, HC5.out, fun q hq => (h53 q hq).imp id (fun h => Nat.le_trans CD.out.size h)⟩)
      have HLT : Hid ((l.take k).length = k) := Lib.hid (by rw [List.length_take, ← HN.out]; omega)
      clear h51 h52 h53 hX
      obtain ⟨x1, hx1⟩ : ∃ z, z = X.1 := ⟨_, rfl⟩
      rw [← hx1]
      have HX1 := Lib.hid hx1
      clear hx1
      refine hK.out _ _ HC5.out (fun hHeld => ?_)
      clear hK K
      try simp only [qq]
      refine tk 13 ?va13 ?hya13 ?rsa13
      case hya13 => (intro w9 hSw; go_simp; try with_reducible rfl)
      try simp only [qq]
      refine wpAnyH_done (by kernel_rfl) ?_ _
      try simp only [qq]
      clear hHeld c0 c1 c2 HD HD1 HD2 HD3
      by_cases h0 : x1 = 0
      · have HW2 : Hid (Jn.writes D pl (l.take (k + 1)) = (0, X.2)) := Lib.hid (by
          obtain ⟨a1, a2⟩ := List.getElem?_eq_some_iff.1 HX.out
          rw [List.take_succ_eq_append_getElem a1, a2, Jn.writes_app _ _ _ _ HW.out, ← HEE.out, HLT.out]
          show (if (E.write ((pl + k : Nat) : Int) x).1 ≠ 0 then E.write ((pl + k : Nat) : Int) x else Jn.writes (E.write ((pl + k : Nat) : Int) x).2 (pl + k + 1) []) = _
          rw [← HPK.out, ← HXE.out, if_neg (fun h => h (by rw [← HX1.out]; exact h0))]
          rfl)
        subst h0
        go_wp2_with fail
        go_roundw
        case rel => exact ⟨k + 1, by omega, by go_num, Lib.hid (by rw [HW2.out]), Lib.hid (by rw [HW2.out]; exact H5.out)⟩
        case measure => simp [intOf]; omega
      · have HPX : Hid (Jn.put D pl l = X) := Lib.hid (by
          obtain ⟨a1, a2⟩ := List.getElem?_eq_some_iff.1 HX.out
          have h1 : l = l.take k ++ (x :: l.drop (k + 1)) := by
            rw [← a2, List.getElem_cons_drop, List.take_append_drop]
          have h2 : Jn.writes D pl l = X := by
            rw [h1, Jn.writes_app _ _ _ _ HW.out, ← HEE.out, HLT.out]
            show (if (E.write ((pl + k : Nat) : Int) x).1 ≠ 0 then E.write ((pl + k : Nat) : Int) x else Jn.writes (E.write ((pl + k : Nat) : Int) x).2 (pl + k + 1) (l.drop (k + 1))) = _
            rw [← HPK.out, ← HXE.out, if_pos (by rw [← HX1.out]; exact h0)]
          unfold Jn.put
          rw [h2, if_pos (by rw [← HX1.out]; exact h0)])
        have e1 : (x1 == 0) = false := by rw [beq_eq_false_iff_ne]; exact h0
        have e2 : (x1 != 0) = true := by rw [bne, e1]; rfl
        go_wp2_with fail
        have h9 := HRR.out w5 (by rw [HPX.out]; exact H5.out)
        rw [HPX.out, ← HX1.out] at h9
        exact h9
    · have q1 : ¬ (k : Int) < (n : Int) := by omega
      have HWE : Hid (Jn.writes D pl l = (0, E)) := Lib.hid (by
        have h1 := HW.out
        have h2 := HEE.out
        rw [List.take_of_length_le (by rw [← HN.out]; omega)] at h1 h2
        rw [h2, ← h1])
      go_wp2_with fail
      refine (rsync_spec HD1.out (by omega)).mono ?_
      rintro e w5 ⟨rfl, h5⟩
      have H5 : Hid (RfTo w own p E.sync.2 w5) := Lib.hid (RfTo.trans HD2.out HD3.out h5)
      have HPX : Hid (Jn.put D pl l = E.sync) := Lib.hid (by unfold Jn.put; rw [HWE.out, if_neg (by simp)])
      clear h5 c0
      go_wp2_with fail
      have h9 := HRR.out w5 (by rw [HPX.out]; exact H5.out)
      rw [HPX.out] at h9
      exact h9
end Go.Proofs.YtpmkgedlnanjiaaGreatDoor
namespace Go.Proofs.YtpmkgedlnanjiaaGreatDoor
set_option linter.unusedVariables false
set_option linter.unusedSimpArgs false
set_option maxRecDepth 100000
open Go Go.RowKit
attribute [local irreducible] Go.wpStill
namespace Jn
theorem cur_64 {D : DK} (h : D.Ok) {i : Nat} (hi : i < D.n) : (D.cur i).length = 64 := DK.last_len _ _ _ (h.st i hi) (fun p hp => (h.q p hp).2)
theorem last_app (l m : List (Nat × Bytes)) (i : Nat) (d : Bytes) : DK.last (l ++ m) i d = DK.last m i (DK.last l i d) := by
  unfold DK.last
  rw [List.foldl_append]
/-- What a put that succeeds leaves, whatever was pending and however the disk is armed. -/
theorem put_keep {D E : DK} (hoff : D.off = false) (hok : D.Ok) {p : Nat} {l : List Bytes} (hp : p + l.length ≤ D.n) (hl : ∀ s ∈ l, s.length = 64) (h : put D p l = (0, E)) :
    E.off = false ∧ E.n = D.n ∧ ∀ i, i < D.n → E.cur i = if p ≤ i ∧ i < p + l.length then l.getD (i - p) [] else D.cur i := by
  rcases writes_up l p hoff hp hl with ⟨a, e⟩ | ⟨m, w, b, a, hm, e⟩
  · obtain ⟨F, hF⟩ : ∃ F : DK, F = { D with q := D.q ++ items p l, arm := a } := ⟨_, rfl⟩
    rw [← hF] at e
    have hFo : F.off = false := by rw [hF]; exact hoff
    have ep : put D p l = F.sync := by unfold put; rw [e, if_neg (fun h => h rfl)]
    rcases count_up hFo with ⟨a2, e2⟩ | ⟨w, b, e2⟩
    · have e3 : F.sync = (0, DK.flush { F with arm := a2 }) := by unfold DK.sync; rw [if_neg (by rw [hFo]; decide), e2, if_neg (fun h => h rfl)]
      rw [ep, e3] at h
      injection h with _ h
      subst h
      refine ⟨(DK.settle_off _ _).trans hFo, (DK.settle_n _ _).trans (by rw [hF]), fun i hi => ?_⟩
      have hx : ∀ X : DK, X.q = D.q ++ items p l → X.st = D.st → (X.flush).cur i = DK.last (items p l) i (D.cur i) := fun X h1 h2 => by
        show (X.settle X.q).st i = _
        rw [h1, DK.settle_cur i _ _ (by rw [h2]; exact hok.st i hi) (fun q hq => by
          rcases List.mem_append.1 hq with h3 | h3
          · exact (hok.q q h3).2
          · exact items_64 _ _ hl q h3), last_app, h2]
        rfl
      rw [hx _ (by rw [hF]) (by rw [hF]), items_last]
    · have e3 : F.sync = (24, F.down w b) := by unfold DK.sync; rw [if_neg (by rw [hFo]; decide), e2, if_pos (by show (24 : Int) ≠ 0; decide)]
      rw [ep, e3] at h
      injection h with h _
      cases h
  · have ep : put D p l = (24, DK.down { D with q := D.q ++ items p (l.take m), arm := a } w b) := by unfold put; rw [e, if_pos (by show (24 : Int) ≠ 0; decide)]
    rw [ep] at h
    injection h with h _
    cases h
theorem mend_keep {sm : Bytes → Bytes} (hs : ∀ s, (sm s).length = 16) {D E : DK} (hoff : D.off = false) (hok : D.Ok) {p c : Nat} {s : Bytes} (hp : p < D.n) (h : mend sm D p c s = (0, E)) : E.off = false ∧ E.n = D.n ∧ ∀ i, i < D.n → i ≠ p → E.cur i = D.cur i := by
  unfold mend at h
  by_cases hg : s = head sm p c ∨ (c = 0 ∧ s = zero)
  · rw [if_pos hg] at h
    injection h with _ h
    subst h
    exact ⟨hoff, rfl, fun _ _ _ => rfl⟩
  rw [if_neg hg] at h
  obtain ⟨e1, E1, h1⟩ : ∃ e1 E1, put D p [zero] = (e1, E1) := ⟨_, _, rfl⟩
  rw [h1] at h
  have hk1 : e1 = 0 → E1.off = false ∧ E1.n = D.n ∧ ∀ i, i < D.n → i ≠ p → E1.cur i = D.cur i := fun h0 => by
    subst h0
    obtain ⟨a, b, d⟩ := put_keep hoff hok (by rw [List.length_singleton]; omega) (fun x hx => by rw [List.mem_singleton.1 hx]; exact zero_len) h1
    exact ⟨a, b, fun i hi hne => by rw [d i hi, if_neg (by rw [List.length_singleton]; omega)]⟩
  by_cases h2 : (e1, E1).1 ≠ 0 ∨ c = 0
  · rw [if_pos h2] at h
    injection h with h3 h4
    subst h4
    exact hk1 h3
  · rw [if_neg h2] at h
    have h0 : e1 = 0 := Classical.byContradiction fun h9 => h2 (.inl h9)
    obtain ⟨a, b, d⟩ := hk1 h0
    have ok1 : E1.Ok := by have := (put_ok [zero] p hok).1; rw [h1] at this; exact this
    obtain ⟨a2, b2, d2⟩ := put_keep a ok1 (by rw [List.length_singleton]; omega) (fun x hx => by rw [List.mem_singleton.1 hx]; exact sealed_len hs _ _) h
    exact ⟨a2, b2.trans b, fun i hi hne => by rw [d2 i (by omega), if_neg (by rw [List.length_singleton]; omega), d i hi hne]⟩
end Jn
theorem op_some {o : Option Bytes} {x : Bytes} (h : o = some x) : op o = x := by rw [h]; rfl
/-- The reference's journal in memory. -/
structure KR (w : World) (B b p : Nat) (j : Jn.J) (v : Value) : Prop where
  blk : Blk w b [.pointer (some ⟨p, 0, none⟩), .int .i64 (j.n : Int), .int .i64 (j.c : Int), v, .bool j.broken] 82
  own : OwT B j.l v w
theorem Pls.quiet {w w' : World} {v : Value} {p n : Nat} (h : Pls w v p n) (hc : Chg [] w w') : Pls w' v p n := by
  obtain ⟨ao, cap, h1, h2, h3⟩ := h
  refine ⟨ao, cap, h1, h2, fun i hi => ?_⟩
  obtain ⟨g, off, h4, h5⟩ := h3 i hi
  exact ⟨g, off, h4, cell_quiet hc h5 (by simp)⟩
theorem pls_one (w : World) (m : Nat) (e : TypeId) : Pls (w.alloc (.cells #[.int .i64 (m : Int)] e)) (.slice (some ⟨w.heap.size, 0, none⟩) 1 1) m 1 :=
  ⟨_, 1, rfl, Nat.le_refl _, fun i hi => by
    obtain rfl : i = 0 := by omega
    exact ⟨_, 0, rfl, (Blk.new w [.int .i64 (m : Int)] e).cell (i := 0) rfl⟩⟩
theorem offV_new {w : World} {n c : Nat} {own : List Nat} (h : ∀ k ∈ own, k < w.heap.size) {g : Nat} (hg : w.heap.size ≤ g) : offV (.slice (some ⟨g, 0, none⟩) n c) own := fun ad m d he hm => by
  injection he with h1 _ _
  injection h1 with h1
  subst h1
  exact absurd (h g hm) (by omega)
def ROpened (w : World) (own : List Nat) (p : Nat) (D : DK) (R : Ending → World → Prop) : Prop :=
  (∀ e E w', Jn.openJ Dg.sum D = ((e, none), E) → RfTo w own p E w' → R (.returned (.tuple #[.pointer none, .slice none 0 0, .int .i64 e])) w') ∧
  ∀ j E b own' v v' w', Jn.openJ Dg.sum D = ((0, some j), E) → RfAt w' own' p E → Chg own w w' → (∀ k ∈ own', k ∈ own ∨ w.heap.size ≤ k) → KR w' w.heap.size b p j v → OwT w.heap.size j.l v' w' →
    w.heap.size ≤ b → b ∉ own' → (∀ k, v.ownBlock = some k → k ∉ own' ∧ k ≠ b) → (∀ k, v'.ownBlock = some k → k ∉ own' ∧ k ≠ b ∧ v.ownBlock ≠ some k) →
    R (.returned (.tuple #[.pointer (some ⟨b, 0, none⟩), v', .int .i64 0])) w'
theorem ropen_nil (w : World) {R : Ending → World → Prop} (h : R (.returned (.tuple #[.pointer none, .slice none 0 0, .int .i64 1])) w) : Calls Tryz.prog 17 #[.pointer none] w R := by
  go_enter Tryz.func17, Tryz.ntmps17
  go_wp2_with fail
  go_ret3
  exact h
set_option maxHeartbeats 4000000 in
theorem ropen_r {w : World} {own : List Nat} {p : Nat} {D : DK} (H : Hid (RfAt w own p D)) (hq : D.q.length ≤ 1000) (hn4 : D.n ≤ 100) {R : Ending → World → Prop} (h : Hid (ROpened w own p D R)) :
    Calls Tryz.prog 17 #[.pointer (some ⟨p, 0, none⟩)] w R := by
  have HRR := h
  clear h
  have HOK := Lib.hid H.out.ok
  obtain ⟨n, hn⟩ : ∃ n, n = D.n := ⟨_, rfl⟩
  have HN := Lib.hid hn
  rw [← hn] at hn4
  have hn1 : 1 ≤ n := by rw [hn]; exact HOK.out.n1
  clear hn
  have HBAD : Hid (∀ e w9, Jn.openJ Dg.sum D = ((e, none), D) → Chg [] w w9 → R (.returned (.tuple #[.pointer none, .slice none 0 0, .int .i64 e])) w9) := Lib.hid (fun e w9 h1 h2 => HRR.out.1 e D w9 h1 (H.out.to h2))
  go_enter Tryz.func17, Tryz.ntmps17
  go_wp2_with fail
  refine (rread_spec H.out (by omega) 0).mono ?_
  rintro e w1 ⟨rfl, hc⟩
  have C1 := Lib.hid hc
  clear hc
  obtain ⟨r1, hr1⟩ : ∃ z, z = (D.read 0).1 := ⟨_, rfl⟩
  obtain ⟨r2, hr2⟩ : ∃ z, z = (D.read ((0 : Nat) : Int)).2 := ⟨_, rfl⟩
  have e0 : (D.read 0).2 = r2 := hr2.symm
  rw [← hr1, e0]
  have HR2 := Lib.hid hr2
  clear hr1 hr2 e0
  go_wp2_with fail
  go_loopw [5, 7] (fun nv ev wr => ∃ k : Nat, k ≤ n ∧ nv = .int .i64 (k : Int) ∧ ev = .int .i64 (D.read (k : Int)).2 ∧ (D.off = true → k = 0) ∧ Hid (Chg [] w wr)) (fun nv _ _ => n + 1 - (intOf nv).toNat)
  case atStart => exact ⟨0, Nat.zero_le _, rfl, by rw [HR2.out], fun _ => rfl, C1⟩
  case round =>
    obtain ⟨k, hk, rfl, rfl, hk0, HC⟩ := hrel
    by_cases hoff : D.off = true
    · obtain rfl : k = 0 := hk0 hoff
      have er : (D.read ((0 : Nat) : Int)).2 = 24 := by rw [read_dead hoff]
      rw [er]
      have HO : Hid (Jn.openJ Dg.sum D = ((24, none), D)) := Lib.hid (by unfold Jn.openJ; rw [if_pos hoff])
      clear hoff er hk0
      go_wp2_with fail
      go_ret3
      exact HBAD.out 24 wr HO.out HC.out
    have hof : D.off = false := by simpa using hoff
    have HOF := Lib.hid hof
    by_cases hlt : k < n
    · have er : (D.read (k : Int)).2 = 0 := by rw [read_on hof (by rw [← HN.out]; exact hlt)]
      rw [er]
      clear er hoff hof hk0
      obtain ⟨k1, hk1⟩ : ∃ z, z = k + 1 := ⟨_, rfl⟩
      have y1 : IntKind.i64.wrap ((k : Int) + 1) = (k1 : Int) := by rw [IntWalk.i64_in _ (by omega)]; omega
      have HK1 := Lib.hid hk1
      clear hk1
      go_wp2_with fail
      refine (rread_spec (H.out.kept HC.out (by simp)) (by omega) (k1 : Int)).mono ?_
      rintro e w2 ⟨rfl, hc⟩
      have C2 : Hid (Chg [] w w2) := Lib.hid (HC.out.trans hc (by simp))
      clear hc
      obtain ⟨r1, hr1⟩ : ∃ z, z = (D.read (k1 : Int)).1 := ⟨_, rfl⟩
      obtain ⟨r3, hr3⟩ : ∃ z, z = (D.read (k1 : Int)).2 := ⟨_, rfl⟩
      rw [← hr1, ← hr3]
      have HR3 := Lib.hid hr3
      clear hr1 hr3
      go_wp2_with fail
      go_roundw
      case rel => exact ⟨k1, by have := HK1.out; omega, rfl, by rw [HR3.out], (fun h => by rw [HOF.out] at h; cases h), C2⟩
      case measure => have := HK1.out; simp [intOf]; omega
    obtain rfl : k = n := by omega
    have er : (D.read (k : Int)).2 = 1 := by rw [HN.out, read_end hof]
    rw [er]
    clear er hoff hof hk0 hlt
    by_cases h3 : k < 3
    · have z3 : (k : Int) < 3 := by omega
      have HO : Hid (Jn.openJ Dg.sum D = ((1, none), D)) := Lib.hid (by unfold Jn.openJ; rw [if_neg (by rw [HOF.out]; decide), if_pos (by rw [← HN.out]; exact h3)])
      go_wp2_with fail
      go_ret3
      exact HBAD.out 1 wr HO.out HC.out
    have z3 : ¬ (k : Int) < 3 := by omega
    obtain ⟨rm, hrm⟩ : ∃ z, z = k - 2 := ⟨_, rfl⟩
    have y1 : IntKind.i64.wrap ((k : Int) - 2) = (rm : Int) := by rw [IntWalk.i64_in _ (by omega)]; omega
    have HRM : Hid (rm = D.n - 2) := Lib.hid (by rw [hrm, HN.out])
    have hrl : rm ≤ 98 := by omega
    clear hrm
    go_wp2_with fail
    refine (rread_spec (H.out.kept HC.out (by simp)) (by omega) 0).mono ?_
    rintro e wqa ⟨rfl, hc⟩
    have HCwqa : Hid (Chg [] w wqa) := Lib.hid (HC.out.trans hc (by simp))
    clear hc
    have er : D.read 0 = (D.cur 0, 0) := read_on HOF.out (k := 0) (by rw [← HN.out]; omega)
    rw [er]
    clear er
    obtain ⟨sa, hsa⟩ : ∃ z, z = D.cur 0 := ⟨_, rfl⟩
    rw [← hsa]
    have HSa := Lib.hid hsa
    have hla : sa.length = 64 := by rw [hsa]; exact Jn.cur_64 HOK.out (by rw [← HN.out]; omega)
    have HLa := Lib.hid hla
    clear hsa hla
    go_wp2_with fail
    refine (rread_spec (H.out.kept HCwqa.out (by simp)) (by omega) 1).mono ?_
    rintro e wqb ⟨rfl, hc⟩
    have HCwqb : Hid (Chg [] w wqb) := Lib.hid (HCwqa.out.trans hc (by simp))
    clear hc
    have er : D.read 1 = (D.cur 1, 0) := read_on HOF.out (k := 1) (by rw [← HN.out]; omega)
    rw [er]
    clear er
    obtain ⟨sb, hsb⟩ : ∃ z, z = D.cur 1 := ⟨_, rfl⟩
    rw [← hsb]
    have HSb := Lib.hid hsb
    have hlb : sb.length = 64 := by rw [hsb]; exact Jn.cur_64 HOK.out (by rw [← HN.out]; omega)
    have HLb := Lib.hid hlb
    clear hsb hlb
    go_wp2_with fail
    refine rcount_r 0 sa rm (by decide) (by omega) HLa.out (fun wca hc => ?_)
    have HCwca : Hid (Chg [] w wca) := Lib.hid (HCwqb.out.trans hc (by simp))
    clear hc
    obtain ⟨xa, hxa⟩ : ∃ z, z = Jn.oi (Jn.cnt Dg.sum 0 sa rm) := ⟨_, rfl⟩
    rw [← hxa]
    have HXa := Lib.hid hxa
    clear hxa
    go_wp2_with fail
    refine rcount_r 1 sb rm (by decide) (by omega) HLb.out (fun wcb hc => ?_)
    have HCwcb : Hid (Chg [] w wcb) := Lib.hid (HCwca.out.trans hc (by simp))
    clear hc
    obtain ⟨xb, hxb⟩ : ∃ z, z = Jn.oi (Jn.cnt Dg.sum 1 sb rm) := ⟨_, rfl⟩
    rw [← hxb]
    have HXb := Lib.hid hxb
    clear hxb
    obtain ⟨mc, hmc⟩ : ∃ z, z = Jn.maxC (Jn.cnt Dg.sum 0 sa rm) (Jn.cnt Dg.sum 1 sb rm) := ⟨_, rfl⟩
    have HMC : Hid (mc = Jn.maxC (Jn.cnt Dg.sum 0 (D.cur 0) (D.n - 2)) (Jn.cnt Dg.sum 1 (D.cur 1) (D.n - 2))) := Lib.hid (by rw [hmc, HSa.out, HSb.out, HRM.out])
    have hmx : max xa xb = Jn.oi mc := by rw [HXa.out, HXb.out, Jn.oi_max, hmc]
    have HML : Hid (∀ c, mc = some c → c ≤ rm) := Lib.hid (fun c h => maxC_le (fun q hq => (Jn.cnt_some hq).1) (fun q hq => (Jn.cnt_some hq).1) (by rw [← hmc]; exact h))
    clear hmc
    have HN3 : Hid (¬ D.n < 3) := Lib.hid (by rw [← HN.out]; exact h3)
    cases mc with
    | none =>
      have hm1 : max xa xb = -1 := hmx
      clear hmx
      go_wp2_with fail
      go_ret3
      exact HBAD.out 25 _ (openJ_none HOF.out HN3.out HMC.out.symm) HCwcb.out
    | some c =>
      have hm1 : max xa xb = (c : Int) := hmx
      clear hmx
      have hcr := HML.out c rfl
      go_wp2_with fail
      clear hm1
      obtain ⟨i0, hi, hz0, hz1, hz2⟩ := info_parts info_u8g
      have HI0 := Lib.hid (And.intro hi (And.intro hz0 (And.intro hz1 hz2)))
      clear hi hz0 hz1 hz2
      go_loopw [13, 14] (fun pv iv wx => ∃ (i : Nat) (t : Bytes) (bo : Option Addr) (cp : Nat), i ≤ c ∧ iv = .int .i64 (i : Int) ∧ pv = .slice bo t.length cp ∧ Hid (Chg [] w wx) ∧ Hid (wx.ownsRow w.heap.size 5 1 (.slice bo t.length cp) t.length (Lib.byteCells t)) ∧ Hid (Jn.found Dg.sum D i = some t) ∧ t.length ≤ 46 * i) (fun _ iv _ => c - (intOf iv).toNat)
      case atStart => exact ⟨0, [], none, 0, Nat.zero_le _, rfl, rfl, HCwcb, Lib.hid ⟨rfl, .inl ⟨rfl, rfl⟩⟩, Lib.hid rfl, Nat.zero_le _⟩
      case round =>
        rename World => wx
        obtain ⟨i, t, bo, cp, hic, rfl, rfl, HCx, HROW, HFD, htl⟩ := hrel
        by_cases hil : i < c
        · obtain ⟨i2, hi2⟩ : ∃ z, z = 2 + i := ⟨_, rfl⟩
          have y2 : IntKind.i64.wrap (2 + (i : Int)) = (i2 : Int) := by rw [IntWalk.i64_in _ (by omega)]; omega
          have HI2 := Lib.hid hi2
          have hi2n : i2 < k := by have := HRM.out; have := HN.out; omega
          clear hi2
          have z4 : (i : Int) < (c : Int) := by omega
          go_wp2_with fail
          refine (rread_spec (H.out.kept HCx.out (by simp)) (by omega) (i2 : Int)).mono ?_
          rintro e w3 ⟨rfl, hc⟩
          have HC3 : Hid (Chg [] w w3) := Lib.hid (HCx.out.trans hc (by simp))
          have HROW3 := Lib.hid (row_keptB HROW.out hc)
          clear hc
          have er : D.read (i2 : Int) = (D.cur i2, 0) := read_on HOF.out (by rw [← HN.out]; exact hi2n)
          rw [er]
          clear er
          obtain ⟨s, hs⟩ : ∃ z, z = D.cur i2 := ⟨_, rfl⟩
          rw [← hs]
          have HS := Lib.hid hs
          have HSL : Hid (s.length = 64) := Lib.hid (by rw [hs]; exact Jn.cur_64 HOK.out (by rw [← HN.out]; exact hi2n))
          clear hs
          go_wp2_with fail
          refine rpiece_r i2 s (by omega) HSL.out (fun w4 hc => ?_)
          have HC4 : Hid (Chg [] w w4) := Lib.hid (HC3.out.trans hc (by simp))
          have HROW4 := Lib.hid (row_keptB HROW3.out hc)
          clear hc
          cases hpc : Jn.piece Dg.sum i2 s with
          | none =>
            have HFN : Hid (Jn.found Dg.sum D (i + 1) = none) := Lib.hid (by unfold Jn.found; rw [HFD.out]; simp only; rw [← HI2.out, ← HS.out, hpc]; rfl)
            clear hpc
            have HOX : Hid (Jn.openJ Dg.sum D = ((25, none), D)) := Lib.hid (openJ_bad HOF.out HN3.out HMC.out.symm (by rw [found_none HFN.out c (by omega)]; rfl))
            rw [show op none = [] from rfl]
            go_wp2_with fail
            go_ret3
            exact HBAD.out 25 _ HOX.out HC4.out
          | some x =>
            rw [show op (some x) = x from rfl]
            have HXL : Hid (1 ≤ x.length ∧ x.length ≤ 46) := Lib.hid (Jn.piece_some Dg.sum_len hpc).2
            have HFN : Hid (Jn.found Dg.sum D (i + 1) = some (t ++ x)) := Lib.hid (by unfold Jn.found; rw [HFD.out]; simp only; rw [← HI2.out, ← HS.out, hpc]; rfl)
            clear hpc
            obtain ⟨xb, hxb⟩ : ∃ z : ByteArray, z = ⟨x.toArray⟩ := ⟨_, rfl⟩
            have hxe : xb.toList.isEmpty = false := by rw [hxb, ByteArray.toList_mk]; cases x with | nil => exact absurd HXL.out.1 (by decide) | cons a r => rfl
            obtain ⟨xn, hxn⟩ : ∃ z, z = x.length := ⟨_, rfl⟩
            have hxs : xb.size = xn := by rw [hxb, hxn]; rfl
            have HXB := Lib.hid hxb
            have HXN := Lib.hid hxn
            have hxn2 : xn ≤ 46 := by rw [hxn]; exact HXL.out.2
            rw [← hxb]
            clear hxb hxn
            obtain ⟨tn, htn⟩ : ∃ z, z = t.length := ⟨_, rfl⟩
            have HTN := Lib.hid htn
            rw [← htn] at htl HROW4 ⊢
            clear htn HROW HROW3
            have hsz : w.heap.size ≤ w4.heap.size := HC4.out.size
            have HSB : Hid (tn + xb.size ≤ maxLen ∧ tn + xb.size ≤ 140737488355328) := Lib.hid ⟨by rw [hxs]; unfold maxLen; omega, by rw [hxs]; omega⟩
            go_wp2_with (at_builtin; go_loud (refine Lib.wpList_append_own_string _ rfl (.tmp 87) (.tmp 88) 56 9 rfl w.heap.size 5 i0 Tryz.underlying56 Tryz.underlying9 HI0.out.1 HI0.out.2.1 HI0.out.2.2.1 HI0.out.2.2.2 (.slice bo tn cp) tn (Lib.byteCells t) rfl HROW4.out xb rfl HSB.out.1 HSB.out.2 hsz ?kk))
            case kk =>
              intro v9 w9 h5 h6 h7
              have HR9 : Hid (w9.ownsRow w.heap.size 5 1 v9 (t ++ x).length (Lib.byteCells (t ++ x))) := Lib.hid (by rw [Lib.strCells_eq, HXB.out, show (⟨x.toArray⟩ : ByteArray).data.toList = x from rfl, ← Lib.byteCells_append, show tn + xn = (t ++ x).length by (rw [List.length_append, HTN.out, HXN.out])] at h5; exact h5)
              have HC9 : Hid (Chg [] w w9) := Lib.hid (HC4.out.grown h6 (fun q hq => .inr (own_ge HROW4.out q hq)))
              obtain ⟨b9, c9, rfl⟩ : ∃ b9 c9, v9 = .slice b9 (t ++ x).length c9 := by
                rcases HR9.out.2 with ⟨h, h0⟩ | ⟨g, cap, cur, h, _⟩
                · exact ⟨none, 0, by rw [h, h0]⟩
                · exact ⟨_, _, h⟩
              have HTL : Hid ((t ++ x).length ≤ 46 * (i + 1)) := Lib.hid (by rw [List.length_append, ← HTN.out, ← HXN.out]; omega)
              clear h5 h6 h7
              obtain ⟨t2, ht2⟩ : ∃ z, z = t ++ x := ⟨_, rfl⟩
              rw [← ht2] at HR9 HFN HTL ⊢
              clear ht2
              go_wp2_with fail
              go_roundw
              case rel => exact ⟨i + 1, t2, b9, c9, by omega, by go_num, rfl, HC9, HR9, HFN, HTL.out⟩
              case measure => simp [intOf]; omega
        obtain rfl : i = c := by omega
        have z4 : ¬ (i : Int) < (i : Int) := by omega
        have hcv : (convert 56 9 (.slice bo t.length cp)).run Tryz.prog wx = .ok (.string ⟨t.toArray⟩) wx := by
          rw [run_convert_bytes_string _ _ _ 5 _ _ _ Tryz.underlying56 Tryz.underlying5 Tryz.underlying9]
          exact run_row_string (P := Tryz.prog) HROW.out
        obtain ⟨tn, htn⟩ : ∃ z, z = t.length := ⟨_, rfl⟩
        rw [← htn] at hcv ⊢
        have HTN := Lib.hid htn
        have HTL9 := Lib.hid htl
        clear htn htl
        go_wp2_with fail
        clear hcv z4
        have HOB : Hid (Jn.records t = none → Jn.openJ Dg.sum D = ((25, none), D)) := Lib.hid (fun h => openJ_bad HOF.out HN3.out HMC.out.symm (by rw [HFD.out, Option.bind_some, h]))
        refine rparse_r t (by have := HTL9.out; omega) (Lib.hid ⟨fun hno w5 hc => ?_, fun l hl v5 w5 ho hc => ?_⟩)
        · have HNO := Lib.hid (HOB.out hno)
          have HC5 : Hid (Chg [] w w5) := Lib.hid (HCx.out.trans hc (by simp))
          clear hno hc
          go_wp2_with fail
          go_ret3
          exact HBAD.out 25 _ HNO.out HC5.out
        have HREC := Lib.hid hl
        have HC5 : Hid (Chg [] w w5) := Lib.hid (HCx.out.trans hc (by simp))
        have HO5 : Hid (OwT wx.heap.size l v5 w5) := Lib.hid ho
        obtain ⟨lo, lcp, rfl⟩ := ho.form
        have HLL : Hid (l.length ≤ 5000) := Lib.hid (by have h1 := parse_count _ _ _ hl; have := HTL9.out; omega)
        obtain ⟨ln, hln⟩ : ∃ z, z = l.length := ⟨_, rfl⟩
        rw [← hln] at HO5 ⊢
        have HLN := Lib.hid hln
        clear hl hc ho hln
        have HBD : Hid ((Jn.found Dg.sum D i).bind Jn.records = some l) := Lib.hid (by rw [HFD.out]; exact HREC.out)
        go_upto_region 30 with (fail)
        obtain ⟨w6, hw⟩ : ∃ W, W = w5.alloc (.cells #[.pointer (some ⟨p, 0, none⟩), .int .i64 (k : Int), .int .i64 (i : Int), .slice lo ln lcp, .bool false] 82) := ⟨_, rfl⟩
        rw [← hw]
        obtain ⟨b, hb⟩ : ∃ X, X = w5.heap.size := ⟨_, rfl⟩
        rw [← hb]
        have HJ6 : Hid (Blk w6 b [.pointer (some ⟨p, 0, none⟩), .int .i64 (k : Int), .int .i64 (i : Int), .slice lo ln lcp, .bool false] 82) := Lib.hid (by rw [hw, hb]; exact Blk.new w5 [.pointer (some ⟨p, 0, none⟩), .int .i64 (k : Int), .int .i64 (i : Int), .slice lo ln lcp, .bool false] _)
        have C56 : Hid (Chg [] w5 w6) := Lib.hid (by rw [hw]; exact (Chg.refl _ _).alloc _)
        have C6 : Hid (Chg [] w w6) := Lib.hid (HC5.out.trans C56.out (by simp))
        have HO6 : Hid (OwT w.heap.size l (.slice lo ln lcp) w6) := Lib.hid ((HO5.out.keep C56.out (by simp)).less HCx.out.size)
        have HBE2 : Hid (w.heap.size ≤ b ∧ b ∉ own ∧ b < w6.heap.size) := Lib.hid (by
          have h1 := HC5.out.size
          have h2 := HJ6.out.lt
          refine ⟨by omega, fun hm => ?_, h2⟩
          have := H.out.lt b hm; omega)
        have HVO : Hid (∀ k, (Value.slice lo ln lcp).ownBlock = some k → k ≠ b ∧ k ∉ own ∧ k < w6.heap.size) := Lib.hid (fun k hk => by
          have h1 := HO5.out.ge k hk
          have h2 := C56.out.size
          refine ⟨by omega, fun hm => ?_, by omega⟩
          have := H.out.lt k hm
          have := HCx.out.size
          omega)
        clear hw hb HO5
        go_wp2_with fail
        go_loopw [21] (fun iv wr => ∃ (m : Nat), m ≤ 2 ∧ iv = .int .i64 (m : Int) ∧ Hid ((∀ q, q ≤ m → (Jn.mendN Dg.sum D i q).1 = 0) ∧ RfTo w6 own p (Jn.mendN Dg.sum D i m).2 wr) ∧ Hid ((Jn.mendN Dg.sum D i m).2.off = false ∧ (Jn.mendN Dg.sum D i m).2.n = D.n ∧ ∀ q, m ≤ q → q < D.n → (Jn.mendN Dg.sum D i m).2.cur q = D.cur q)) (fun iv _ => 2 - (intOf iv).toNat)
        case atStart => exact ⟨0, by omega, rfl, Lib.hid ⟨fun m hm => by rw [Nat.le_zero.1 hm]; rfl, (Lib.hid (H.out.kept C6.out (by simp))).out.to (Chg.refl _ _)⟩, Lib.hid ⟨HOF.out, rfl, fun _ _ _ => rfl⟩⟩
        case round =>
          rename World => wr
          obtain ⟨m, hm2, rfl, HMN, HKP⟩ := hrel
          obtain ⟨own1, hd, hch, hsub⟩ := HMN.out.2
          have HD := Lib.hid hd
          have HCH := Lib.hid hch
          have HSUB := Lib.hid hsub
          clear hd hch hsub
          have HJR := Lib.hid (HCH.out.blk HJ6.out HBE2.out.2.1)
          by_cases hlt : m < 2
          · obtain ⟨E, hE⟩ : ∃ E, E = (Jn.mendN Dg.sum D i m).2 := ⟨_, rfl⟩
            have z21 : (m : Int) < 2 := by omega
            have HEQ : Hid (E.q.length ≤ 1004) := Lib.hid (by rw [hE]; have := Jn.mendN_q (sm := Dg.sum) D i m; omega)
            obtain ⟨s, hs⟩ : ∃ s, s = D.cur m := ⟨_, rfl⟩
            have HSN : Hid (s.length = 64 ∧ m < D.n) := Lib.hid ⟨by rw [hs]; exact Jn.cur_64 HOK.out (by have := HN3.out; omega), by have := HN3.out; omega⟩
            have HME : Hid (Jn.mendN Dg.sum D i (m + 1) = Jn.mend Dg.sum E m i s) := Lib.hid (by rw [hs, hE]; rfl)
            rw [← hE] at HD HKP
            have HRD : Hid (E.read (m : Int) = (s, 0)) := Lib.hid (by rw [read_on HKP.out.1 (by rw [HKP.out.2.1]; exact HSN.out.2), HKP.out.2.2 m (Nat.le_refl _) HSN.out.2, ← hs])
            have HMN1 : Hid (∀ q, q ≤ m → (Jn.mendN Dg.sum D i q).1 = 0) := Lib.hid HMN.out.1
            clear hE hs HMN
            have HTR : Hid (∀ wx EE, RfTo wr own1 p EE wx → RfTo w6 own p EE wx) := Lib.hid (fun wx EE h9 => RfTo.trans HCH.out HSUB.out h9)
            have HBN : Hid (b ∉ own1) := Lib.hid (fun hm9 => by rcases HSUB.out b hm9 with h | h; exact HBE2.out.2.1 h; have := HBE2.out.2.2; omega)
            go_wp2_with fail
            refine (rread_spec HD.out (by have := HEQ.out; omega) (m : Int)).mono ?_
            rintro e w7 ⟨rfl, hc⟩
            have C7 : Hid (Chg [] wr w7) := Lib.hid hc
            clear hc
            rw [HRD.out]
            go_wp2_with fail
            refine rhead_r m i (by omega) (by omega) (fun w8 hc => ?_)
            have C8 : Hid (Chg [] wr w8) := Lib.hid (C7.out.trans hc (by simp))
            clear hc
            obtain ⟨h, hh1⟩ : ∃ h, h = Jn.head Dg.sum m i := ⟨_, rfl⟩
            rw [← hh1]
            have HHD := Lib.hid hh1
            clear hh1
            by_cases e1 : s = h
            · have f1 : (s == h) = true := by rw [e1]; exact beq_self_eq_true _
              have HE1 := Lib.hid e1
              clear e1
              have z20 : Hid (m < 2) := Lib.hid hlt
              have HMQ : Hid (Jn.mend Dg.sum E m i s = (0, E)) := Lib.hid (by unfold Jn.mend; rw [if_pos (Or.inl (HE1.out.trans HHD.out))])
              have HT8 := Lib.hid (HD.out.to C8.out)
              have HMQ2 : Hid (Jn.mendN Dg.sum D i (m + 1) = (0, E)) := Lib.hid (HME.out.trans HMQ.out)
              go_wp2_with fail
              go_roundw
              case rel => have HKE := Lib.hid (Jn.mend_keep Dg.sum_len HKP.out.1 HD.out.ok (by rw [HKP.out.2.1]; exact HSN.out.2) HMQ.out); exact ⟨m + 1, by omega, by go_num, Lib.hid ⟨fun q hq => by rcases (by omega : q ≤ m ∨ q = m + 1) with h9 | rfl; exact HMN1.out q h9; rw [HMQ2.out], by rw [HMQ2.out]; exact HTR.out _ _ HT8.out⟩, Lib.hid (by rw [HMQ2.out]; exact ⟨HKE.out.1, HKE.out.2.1.trans HKP.out.2.1, fun q h8 h9 => (HKE.out.2.2 q (by rw [HKP.out.2.1]; exact h9) (by omega)).trans (HKP.out.2.2 q (by omega) h9)⟩)⟩
              case measure => simp [intOf]; omega
            have z20 : Hid (m < 2) := Lib.hid hlt
            have f1 : (s == h) = false := by rw [beq_eq_false_iff_ne]; exact e1
            have HE1 := Lib.hid e1
            clear e1
            by_cases e2 : i = 0
            · have HE2 := Lib.hid e2
              have f2 : ((i : Int) == 0) = true := by rw [beq_iff_eq]; omega
              clear e2
              by_cases e3 : s = Jn.zero
              · have f4 : (s == Jn.zero) = true := by rw [e3]; exact beq_self_eq_true _
                have HE3 := Lib.hid e3
                clear e3
                go_wp2_with fail
                refine rzero_r (fun w9 hc => ?_)
                have C9 : Hid (Chg [] wr w9) := Lib.hid (C8.out.trans hc (by simp))
                clear hc
                have HMQ : Hid (Jn.mend Dg.sum E m i s = (0, E)) := Lib.hid (by unfold Jn.mend; rw [if_pos (Or.inr ⟨HE2.out, HE3.out⟩)])
                have HT9 := Lib.hid (HD.out.to C9.out)
                have HMQ2 : Hid (Jn.mendN Dg.sum D i (m + 1) = (0, E)) := Lib.hid (HME.out.trans HMQ.out)
                go_wp2_with fail
                go_roundw
                case rel => have HKE := Lib.hid (Jn.mend_keep Dg.sum_len HKP.out.1 HD.out.ok (by rw [HKP.out.2.1]; exact HSN.out.2) HMQ.out); exact ⟨m + 1, by omega, by go_num, Lib.hid ⟨fun q hq => by rcases (by omega : q ≤ m ∨ q = m + 1) with h9 | rfl; exact HMN1.out q h9; rw [HMQ2.out], by rw [HMQ2.out]; exact HTR.out _ _ HT9.out⟩, Lib.hid (by rw [HMQ2.out]; exact ⟨HKE.out.1, HKE.out.2.1.trans HKP.out.2.1, fun q h8 h9 => (HKE.out.2.2 q (by rw [HKP.out.2.1]; exact h9) (by omega)).trans (HKP.out.2.2 q (by omega) h9)⟩)⟩
                case measure => simp [intOf]; omega
              have f4 : (s == Jn.zero) = false := by rw [beq_eq_false_iff_ne]; exact e3
              have HE3 := Lib.hid e3
              clear e3
              have HG : Hid (¬ (s = Jn.head Dg.sum m i ∨ (i = 0 ∧ s = Jn.zero))) := Lib.hid (fun h9 => by rcases h9 with h9 | h9; exact HE1.out (h9.trans HHD.out.symm); exact HE3.out h9.2)
              go_wp2_with fail
              refine rzero_r (fun w9 hc => ?_)
              have C9 : Hid (Chg [] wr w9) := Lib.hid (C8.out.trans hc (by simp))
              clear hc
              have HD9 := Lib.hid (HD.out.kept C9.out (by simp))
              have HJ9 := Lib.hid (C9.out.blk HJR.out (by simp))
              go_wp2_with fail
              obtain ⟨xa1, hxa⟩ : ∃ W, W = w9.alloc (.cells #[.int .i64 (m : Int)] 3) := ⟨_, rfl⟩
              rw [← hxa]
              obtain ⟨pb1, hpb⟩ : ∃ z, z = w9.heap.size := ⟨_, rfl⟩
              rw [← hpb]
              have HPA1 : Hid (Pls xa1 (.slice (some ⟨pb1, 0, none⟩) 1 1) m 1) := Lib.hid (by rw [hxa, hpb]; exact pls_one _ m _)
              have CA1 : Hid (Chg [] w9 xa1) := Lib.hid (by rw [hxa]; exact (Chg.refl _ _).alloc _)
              have HPV1 : Hid (offV (.slice (some ⟨pb1, 0, none⟩) 1 1) own1) := Lib.hid (offV_new HD9.out.lt (by omega))
              clear hxa hpb
              refine rzero_r (fun xb1 hc => ?_)
              have CB1 : Hid (Chg [] w9 xb1) := Lib.hid (CA1.out.trans hc (by simp))
              have HPB1 := Lib.hid (HPA1.out.quiet hc)
              clear hc
              obtain ⟨sc1, hsc⟩ : ∃ z, z = Jn.zero := ⟨_, rfl⟩
              rw [← hsc]
              have HSC1 := Lib.hid hsc
              clear hsc
              go_wp2_with fail
              obtain ⟨xc1, hxc⟩ : ∃ W, W = xb1.alloc (.cells #[.string ⟨sc1.toArray⟩] 9) := ⟨_, rfl⟩
              rw [← hxc]
              have HSX1 : Hid (Strs xc1 (.slice (some ⟨xb1.heap.size, 0, none⟩) 1 1) [sc1]) := Lib.hid (by rw [hxc]; exact strs_one _ _)
              have CC1 : Hid (Chg [] xb1 xc1) := Lib.hid (by rw [hxc]; exact (Chg.refl _ _).alloc _)
              clear hxc
              have CD1 : Hid (Chg [] w9 xc1) := Lib.hid (CB1.out.trans CC1.out (by simp))
              have HSV1 : Hid (offV (.slice (some ⟨xb1.heap.size, 0, none⟩) 1 1) own1) := Lib.hid (offV_new HD9.out.lt CB1.out.size)
              refine rjwrite_r (own := own1) (b := b) (p := p) (D := E) (Lib.hid (HD9.out.kept CD1.out (by simp))) (Lib.hid ((CD1.out.blk HJ9.out (by simp)).cell (i := 0) rfl)) HBN.out m [sc1] _ _ (Lib.hid (HPB1.out.quiet CC1.out)) HPV1 HSX1 HSV1 ?qa1 ?qb1 (fun xd1 ht => ?_)
              case qa1 => rw [List.length_singleton]; have := HEQ.out; omega
              case qb1 => rw [List.length_singleton]; omega
              obtain ⟨e1, E1, hE1⟩ : ∃ a b, Jn.put E m [sc1] = (a, b) := ⟨_, _, rfl⟩
              rw [hE1] at ht ⊢
              have HE1 : Hid (Jn.put E m [Jn.zero] = (e1, E1)) := Lib.hid (by rw [← HSC1.out]; exact hE1)
              have HTX1 : Hid (RfTo w9 own1 p E1 xd1) := Lib.hid (RfTo.trans (CD1.out.mono (by simp)) (fun q hq => .inl hq) ht)
              clear hE1 ht
              have HT1 : Hid (RfTo wr own1 p E1 xd1) := Lib.hid (RfTo.trans (C9.out.mono (by simp)) (fun q hq => .inl hq) HTX1.out)
              have HMQ : Hid (Jn.mend Dg.sum E m i s = (e1, E1)) := Lib.hid (by unfold Jn.mend; rw [if_neg HG.out, HE1.out, if_pos (Or.inr HE2.out)])
              by_cases hz : e1 = 0
              · subst hz
                have z30 : ¬ (0 : Int) < (i : Int) := by have := HE2.out; omega
                have HMQ2 : Hid (Jn.mendN Dg.sum D i (m + 1) = (0, E1)) := Lib.hid (HME.out.trans HMQ.out)
                go_wp2_with fail
                go_roundw
                case rel => have HKE := Lib.hid (Jn.mend_keep Dg.sum_len HKP.out.1 HD.out.ok (by rw [HKP.out.2.1]; exact HSN.out.2) HMQ.out); exact ⟨m + 1, by omega, by go_num, Lib.hid ⟨fun q hq => by rcases (by omega : q ≤ m ∨ q = m + 1) with h9 | rfl; exact HMN1.out q h9; rw [HMQ2.out], by rw [HMQ2.out]; exact HTR.out _ _ HT1.out⟩, Lib.hid (by rw [HMQ2.out]; exact ⟨HKE.out.1, HKE.out.2.1.trans HKP.out.2.1, fun q h8 h9 => (HKE.out.2.2 q (by rw [HKP.out.2.1]; exact h9) (by omega)).trans (HKP.out.2.2 q (by omega) h9)⟩)⟩
                case measure => simp [intOf]; omega
              have hz0 : Hid (e1 ≠ 0) := Lib.hid hz
              have f5 : (e1 == 0) = false := by rw [beq_eq_false_iff_ne]; exact hz
              clear hz
              have HOZ : Hid (Jn.openJ Dg.sum D = ((e1, none), E1)) := Lib.hid (openJ_stop HOF.out HN3.out HMC.out.symm HBD.out z20.out HMN1.out (HME.out.trans HMQ.out) hz0.out)
              go_wp2_with fail
              go_ret3
              exact HRR.out.1 e1 E1 xd1 HOZ.out (RfTo.trans (C6.out.mono (by simp)) (fun q hq => .inl hq) (HTR.out _ _ HT1.out))
            have f2 : ((i : Int) == 0) = false := by rw [beq_eq_false_iff_ne]; omega
            have HI9 := Lib.hid e2
            have z30 : (0 : Int) < (i : Int) := by omega
            clear e2
            have HG : Hid (¬ (s = Jn.head Dg.sum m i ∨ (i = 0 ∧ s = Jn.zero))) := Lib.hid (fun h9 => by rcases h9 with h9 | h9; exact HE1.out (h9.trans HHD.out.symm); exact HI9.out h9.1)
            have HD9 := Lib.hid (HD.out.kept C8.out (by simp))
            have HJ9 := Lib.hid (C8.out.blk HJR.out (by simp))
            go_wp2_with fail
            obtain ⟨xa1, hxa⟩ : ∃ W, W = w8.alloc (.cells #[.int .i64 (m : Int)] 3) := ⟨_, rfl⟩
            rw [← hxa]
            obtain ⟨pb1, hpb⟩ : ∃ z, z = w8.heap.size := ⟨_, rfl⟩
            rw [← hpb]
            have HPA1 : Hid (Pls xa1 (.slice (some ⟨pb1, 0, none⟩) 1 1) m 1) := Lib.hid (by rw [hxa, hpb]; exact pls_one _ m _)
            have CA1 : Hid (Chg [] w8 xa1) := Lib.hid (by rw [hxa]; exact (Chg.refl _ _).alloc _)
            have HPV1 : Hid (offV (.slice (some ⟨pb1, 0, none⟩) 1 1) own1) := Lib.hid (offV_new HD9.out.lt (by omega))
            clear hxa hpb
            refine rzero_r (fun xb1 hc => ?_)
            have CB1 : Hid (Chg [] w8 xb1) := Lib.hid (CA1.out.trans hc (by simp))
            have HPB1 := Lib.hid (HPA1.out.quiet hc)
            clear hc
            obtain ⟨sc1, hsc⟩ : ∃ z, z = Jn.zero := ⟨_, rfl⟩
            rw [← hsc]
            have HSC1 := Lib.hid hsc
            clear hsc
            go_wp2_with fail
            obtain ⟨xc1, hxc⟩ : ∃ W, W = xb1.alloc (.cells #[.string ⟨sc1.toArray⟩] 9) := ⟨_, rfl⟩
            rw [← hxc]
            have HSX1 : Hid (Strs xc1 (.slice (some ⟨xb1.heap.size, 0, none⟩) 1 1) [sc1]) := Lib.hid (by rw [hxc]; exact strs_one _ _)
            have CC1 : Hid (Chg [] xb1 xc1) := Lib.hid (by rw [hxc]; exact (Chg.refl _ _).alloc _)
            clear hxc
            have CD1 : Hid (Chg [] w8 xc1) := Lib.hid (CB1.out.trans CC1.out (by simp))
            have HSV1 : Hid (offV (.slice (some ⟨xb1.heap.size, 0, none⟩) 1 1) own1) := Lib.hid (offV_new HD9.out.lt CB1.out.size)
            refine rjwrite_r (own := own1) (b := b) (p := p) (D := E) (Lib.hid (HD9.out.kept CD1.out (by simp))) (Lib.hid ((CD1.out.blk HJ9.out (by simp)).cell (i := 0) rfl)) HBN.out m [sc1] _ _ (Lib.hid (HPB1.out.quiet CC1.out)) HPV1 HSX1 HSV1 ?qa1 ?qb1 (fun xd1 ht => ?_)
            case qa1 => rw [List.length_singleton]; have := HEQ.out; omega
            case qb1 => rw [List.length_singleton]; omega
            obtain ⟨e1, E1, hE1⟩ : ∃ a b, Jn.put E m [sc1] = (a, b) := ⟨_, _, rfl⟩
            rw [hE1] at ht ⊢
            have HE1 : Hid (Jn.put E m [Jn.zero] = (e1, E1)) := Lib.hid (by rw [← HSC1.out]; exact hE1)
            have HTX1 : Hid (RfTo w8 own1 p E1 xd1) := Lib.hid (RfTo.trans (CD1.out.mono (by simp)) (fun q hq => .inl hq) ht)
            clear hE1 ht
            have HT1 : Hid (RfTo wr own1 p E1 xd1) := Lib.hid (RfTo.trans (C8.out.mono (by simp)) (fun q hq => .inl hq) HTX1.out)
            by_cases hz : e1 = 0
            · subst hz
              obtain ⟨own2, hd, hch, hsub⟩ := HT1.out
              have HD2 := Lib.hid hd
              have HCH2 := Lib.hid hch
              have HSUB2 := Lib.hid hsub
              clear hd hch hsub
              have HJ2 := Lib.hid (HCH2.out.blk HJR.out HBN.out)
              have HBN2 : Hid (b ∉ own2) := Lib.hid (fun hm9 => by rcases HSUB2.out b hm9 with h | h; exact HBN.out h; have := HBE2.out.2.2; have := HCH.out.size; omega)
              have HEQ2 : Hid (E1.q.length ≤ 1005) := Lib.hid (by have h9 := Jn.put_q [Jn.zero] E m; rw [HE1.out] at h9; simp only [List.length_singleton] at h9; have := HEQ.out; omega)
              go_wp2_with fail
              obtain ⟨xa2, hxa⟩ : ∃ W, W = xd1.alloc (.cells #[.int .i64 (m : Int)] 3) := ⟨_, rfl⟩
              rw [← hxa]
              obtain ⟨pb2, hpb⟩ : ∃ z, z = xd1.heap.size := ⟨_, rfl⟩
              rw [← hpb]
              have HPA2 : Hid (Pls xa2 (.slice (some ⟨pb2, 0, none⟩) 1 1) m 1) := Lib.hid (by rw [hxa, hpb]; exact pls_one _ m _)
              have CA2 : Hid (Chg [] xd1 xa2) := Lib.hid (by rw [hxa]; exact (Chg.refl _ _).alloc _)
              have HPV2 : Hid (offV (.slice (some ⟨pb2, 0, none⟩) 1 1) own2) := Lib.hid (offV_new HD2.out.lt (by omega))
              clear hxa hpb
              refine rhead_r m i (by omega) (by omega) (fun xb2 hc => ?_)
              have CB2 : Hid (Chg [] xd1 xb2) := Lib.hid (CA2.out.trans hc (by simp))
              have HPB2 := Lib.hid (HPA2.out.quiet hc)
              clear hc
              obtain ⟨sc2, hsc⟩ : ∃ z, z = Jn.head Dg.sum m i := ⟨_, rfl⟩
              rw [← hsc]
              have HSC2 := Lib.hid hsc
              clear hsc
              go_wp2_with fail
              obtain ⟨xc2, hxc⟩ : ∃ W, W = xb2.alloc (.cells #[.string ⟨sc2.toArray⟩] 9) := ⟨_, rfl⟩
              rw [← hxc]
              have HSX2 : Hid (Strs xc2 (.slice (some ⟨xb2.heap.size, 0, none⟩) 1 1) [sc2]) := Lib.hid (by rw [hxc]; exact strs_one _ _)
              have CC2 : Hid (Chg [] xb2 xc2) := Lib.hid (by rw [hxc]; exact (Chg.refl _ _).alloc _)
              clear hxc
              have CD2 : Hid (Chg [] xd1 xc2) := Lib.hid (CB2.out.trans CC2.out (by simp))
              have HSV2 : Hid (offV (.slice (some ⟨xb2.heap.size, 0, none⟩) 1 1) own2) := Lib.hid (offV_new HD2.out.lt CB2.out.size)
              refine rjwrite_r (own := own2) (b := b) (p := p) (D := E1) (Lib.hid (HD2.out.kept CD2.out (by simp))) (Lib.hid ((CD2.out.blk HJ2.out (by simp)).cell (i := 0) rfl)) HBN2.out m [sc2] _ _ (Lib.hid (HPB2.out.quiet CC2.out)) HPV2 HSX2 HSV2 ?qa2 ?qb2 (fun xd2 ht => ?_)
              case qa2 => rw [List.length_singleton]; have := HEQ2.out; omega
              case qb2 => rw [List.length_singleton]; omega
              obtain ⟨e2, E2, hE2⟩ : ∃ a b, Jn.put E1 m [sc2] = (a, b) := ⟨_, _, rfl⟩
              rw [hE2] at ht ⊢
              have HE2 : Hid (Jn.put E1 m [Jn.head Dg.sum m i] = (e2, E2)) := Lib.hid (by rw [← HSC2.out]; exact hE2)
              have HTX2 : Hid (RfTo xd1 own2 p E2 xd2) := Lib.hid (RfTo.trans (CD2.out.mono (by simp)) (fun q hq => .inl hq) ht)
              clear hE2 ht
              have HT2 : Hid (RfTo wr own1 p E2 xd2) := Lib.hid (RfTo.trans HCH2.out HSUB2.out HTX2.out)
              have HMQ : Hid (Jn.mend Dg.sum E m i s = (e2, E2)) := Lib.hid (by unfold Jn.mend; rw [if_neg HG.out, HE1.out, if_neg (by intro h9; rcases h9 with h9 | h9; exact h9 rfl; exact HI9.out h9)]; exact HE2.out)
              by_cases hz : e2 = 0
              · subst hz
                have HMQ2 : Hid (Jn.mendN Dg.sum D i (m + 1) = (0, E2)) := Lib.hid (HME.out.trans HMQ.out)
                go_wp2_with fail
                go_roundw
                case rel => have HKE := Lib.hid (Jn.mend_keep Dg.sum_len HKP.out.1 HD.out.ok (by rw [HKP.out.2.1]; exact HSN.out.2) HMQ.out); exact ⟨m + 1, by omega, by go_num, Lib.hid ⟨fun q hq => by rcases (by omega : q ≤ m ∨ q = m + 1) with h9 | rfl; exact HMN1.out q h9; rw [HMQ2.out], by rw [HMQ2.out]; exact HTR.out _ _ HT2.out⟩, Lib.hid (by rw [HMQ2.out]; exact ⟨HKE.out.1, HKE.out.2.1.trans HKP.out.2.1, fun q h8 h9 => (HKE.out.2.2 q (by rw [HKP.out.2.1]; exact h9) (by omega)).trans (HKP.out.2.2 q (by omega) h9)⟩)⟩
                case measure => simp [intOf]; omega
              have hz0 : Hid (e2 ≠ 0) := Lib.hid hz
              have f5 : (e2 == 0) = false := by rw [beq_eq_false_iff_ne]; exact hz
              clear hz
              have HOZ : Hid (Jn.openJ Dg.sum D = ((e2, none), E2)) := Lib.hid (openJ_stop HOF.out HN3.out HMC.out.symm HBD.out z20.out HMN1.out (HME.out.trans HMQ.out) hz0.out)
              go_wp2_with fail
              go_ret3
              exact HRR.out.1 e2 E2 xd2 HOZ.out (RfTo.trans (C6.out.mono (by simp)) (fun q hq => .inl hq) (HTR.out _ _ HT2.out))
            have HMQ : Hid (Jn.mend Dg.sum E m i s = (e1, E1)) := Lib.hid (by unfold Jn.mend; rw [if_neg HG.out, HE1.out, if_pos (Or.inl hz)])
            have hz0 : Hid (e1 ≠ 0) := Lib.hid hz
            have f5 : (e1 == 0) = false := by rw [beq_eq_false_iff_ne]; exact hz
            clear hz
            have HOZ : Hid (Jn.openJ Dg.sum D = ((e1, none), E1)) := Lib.hid (openJ_stop HOF.out HN3.out HMC.out.symm HBD.out z20.out HMN1.out (HME.out.trans HMQ.out) hz0.out)
            go_wp2_with fail
            go_ret3
            exact HRR.out.1 e1 E1 xd1 HOZ.out (RfTo.trans (C6.out.mono (by simp)) (fun q hq => .inl hq) (HTR.out _ _ HT1.out))
          obtain rfl : m = 2 := by omega
          clear hlt hm2
          obtain ⟨E, hE⟩ : ∃ E, E = (Jn.mendN Dg.sum D i 2).2 := ⟨_, rfl⟩
          have HOZ : Hid (Jn.openJ Dg.sum D = ((0, some ⟨k, i, l, false⟩), E)) := Lib.hid (by rw [openJ_end HOF.out HN3.out HMC.out.symm HBD.out HMN.out.1, hE, HN.out])
          rw [← hE] at HD
          clear hE HMN HKP
          have HOWR : Hid (OwT w.heap.size l (.slice lo ln lcp) wr) := Lib.hid (HO6.out.keep HCH.out (fun q hq => (HVO.out q hq).2.1))
          have HCW : Hid (Chg [] wr (wr.alloc (.cells #[] 9))) := Lib.hid ((Chg.refl _ _).alloc _)
          have HWS : Hid (w.heap.size ≤ wr.heap.size ∧ w6.heap.size ≤ wr.heap.size) := Lib.hid (by have h1 := C6.out.size; have h2 := HCH.out.size; omega)
          have HOE : Hid (OwT w.heap.size [] (.slice (some ⟨wr.heap.size, 0, none⟩) 0 0) (wr.alloc (.cells #[] 9))) := Lib.hid (own_none44 (Blk.new wr [] _) HWS.out.1)
          go_wp2_with (at_builtin; go_loud (refine wpList_strs rfl (.tmp 152) (.tmp 153) rfl w.heap.size [] (.slice (some ⟨wr.heap.size, 0, none⟩) 0 0) (by rfl) HOE.out l (.slice lo ln lcp) (by rfl) (HOWR.out.keep HCW.out (by simp)).strs (by have := HLL.out; simp only [List.length_nil]; omega) (by have h8 := HWS.out; have h9 := HCW.out.size; omega) ?kk))
          case kk =>
            intro v8 w8 h5 h6 h7
            have HC8 : Hid (Chg [] wr w8) := Lib.hid (HCW.out.trans h6 (fun q hq => .inr (by have h9 := Option.mem_toList.1 hq; simp only [Value.ownBlock, Option.some.injEq] at h9; omega)))
            have HO8 : Hid (OwT w.heap.size l v8 w8) := Lib.hid h5
            have HN8 : Hid (∀ q, v8.ownBlock = some q → wr.heap.size ≤ q) := Lib.hid (fun q hq => by rcases h7 q hq with h8 | h8; (have h9 : wr.heap.size = q := by simpa [Value.ownBlock] using h8); omega; have h9 := HCW.out.size; omega)
            clear h5 h6 h7
            go_wp2_with fail
            go_ret3
            have HJ8 := HC8.out.blk HJR.out (by simp)
            refine HRR.out.2 _ E b own1 (.slice lo ln lcp) v8 w8 HOZ.out (HD.out.kept HC8.out (by simp)) ?_ ?_ ⟨HJ8, HOWR.out.keep HC8.out (by simp)⟩ HO8.out HBE2.out.1 ?_ ?_ ?_
            · exact (C6.out.mono (by simp)).trans (HCH.out.trans (HC8.out.mono (by simp)) (fun q hq => .inl hq)) (fun q hq => .inl hq)
            · exact fun q hq => by rcases HSUB.out q hq with h | h; exact .inl h; exact .inr (by have := C6.out.size; omega)
            · exact fun hm9 => by rcases HSUB.out b hm9 with h | h; exact HBE2.out.2.1 h; have := HBE2.out.2.2; omega
            · exact fun q hq => ⟨fun hm9 => by rcases HSUB.out q hm9 with h | h; exact (HVO.out q hq).2.1 h; have := (HVO.out q hq).2.2; omega, (HVO.out q hq).1⟩
            · exact fun q hq => ⟨fun hm9 => by have := HD.out.lt q hm9; have := HN8.out q hq; omega, by have := HN8.out q hq; have := HBE2.out.2.2; have := HWS.out; omega, fun h9 => by have := (HVO.out q h9).2.2; have := HN8.out q hq; have := HWS.out; omega⟩
end Go.Proofs.YtpmkgedlnanjiaaGreatDoor
