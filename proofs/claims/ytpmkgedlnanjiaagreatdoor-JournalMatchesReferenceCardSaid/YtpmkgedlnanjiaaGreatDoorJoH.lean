/-
  Journal: the closures of Append.
-/
import Derived.Test.YtpmkgedlnanjiaaGreatDoorJoF
import Derived.Test.YtpmkgedlnanjiaaGreatDoorJoG
import Derived.Defers
import Derived.Recover
namespace Go.Proofs.YtpmkgedlnanjiaaGreatDoor
set_option linter.unusedVariables false
set_option linter.unusedSimpArgs false
set_option maxRecDepth 100000
open Go Go.RowKit
attribute [local irreducible] Go.wpStill
theorem broken_d {w : World} (b b2 b4 : Nat) (e : Int) (q : Bool) (c2 : w.cell? ⟨b2, 0, none⟩ = some (.pointer (some ⟨b, 0, none⟩))) (c4 : w.cell? ⟨b4, 0, none⟩ = some (.int .i64 e)) (c0 : w.cell? ⟨b, 4, none⟩ = some (.bool q)) (f0 : w.frozen? ⟨b, 4, none⟩ = false) :
    CallsD Tryz.prog 49 #[.pointer (some ⟨b4, 0, none⟩), .pointer (some ⟨b2, 0, none⟩)] .returning w fun en u' w' => u' = .returning ∧ (en = .returned (.tuple #[]) ∧ w' = w.setCell ⟨b, 4, none⟩ (.bool (e != 0))) := by
  go_enter_d Tryz.func49, Tryz.ntmps49
  go_wp2_with fail
  go_end0
  first | exact ⟨rfl, rfl⟩ | trace_state
theorem stepA_r {w : World} {own : List Nat} {b p : Nat} {D : DK} (H : Hid (DkAt w own p D)) (HJ : Hid (w.cell? ⟨b, 0, none⟩ = some (.pointer (some ⟨p, 0, none⟩)))) (hb : b ∉ own) (pl : Nat) (l : List Bytes) (v : Value) (HV : Hid (Strs w v l)) (HK : Hid (offV v own)) (a2 a6 a8 : Nat)
    (c2 : w.cell? ⟨a2, 0, none⟩ = some (.pointer (some ⟨b, 0, none⟩))) (c6 : w.cell? ⟨a6, 0, none⟩ = some (.int .i64 (pl : Int))) (c8 : w.cell? ⟨a8, 0, none⟩ = some v)
    (hq : D.q.length + l.length ≤ 900000) (hl : pl + l.length ≤ 1000000) {R : Ending → World → Prop} (h : ∀ w', DkTo w own p (Jn.put D pl l).2 w' → R (.returned (.int .i64 (Jn.put D pl l).1)) w') :
    Calls Tryz.prog 50 #[.pointer (some ⟨a2, 0, none⟩), .pointer (some ⟨a6, 0, none⟩), .pointer (some ⟨a8, 0, none⟩)] w R := by
  have HRR := Lib.hid h
  clear h
  have HBN := Lib.hid hb
  clear hb
  obtain ⟨ao, cap, rfl, hle, hv⟩ := HV.out
  obtain ⟨n, hn⟩ : ∃ n, n = l.length := ⟨_, rfl⟩
  rw [← hn] at HV HK c8
  have HNN := Lib.hid hn
  clear hn hle hv
  go_enter Tryz.func50, Tryz.ntmps50
  go_wp2_with fail
  refine jwrite_r H HJ HBN.out pl l _ HV HK hq hl (fun w' h' => ?_)
  have HP := Lib.hid h'
  obtain ⟨e, he⟩ : ∃ e, e = (Jn.put D pl l).1 := ⟨_, rfl⟩
  have HE := Lib.hid he
  rw [← he]
  clear h' he
  go_wp2_with fail
  have h9 := HRR.out w' HP.out
  rw [← HE.out] at h9
  exact h9
theorem stepB_r {w : World} {own : List Nat} {b p : Nat} {D : DK} (H : Hid (DkAt w own p D)) (HJ : Hid (w.cell? ⟨b, 0, none⟩ = some (.pointer (some ⟨p, 0, none⟩)))) (hb : b ∉ own) (pl : Nat) (l : List Bytes) (v : Value) (HV : Hid (Strs w v l)) (HK : Hid (offV v own)) (a2 a6 a8 : Nat)
    (c2 : w.cell? ⟨a2, 0, none⟩ = some (.pointer (some ⟨b, 0, none⟩))) (c6 : w.cell? ⟨a6, 0, none⟩ = some (.int .i64 (pl : Int))) (c8 : w.cell? ⟨a8, 0, none⟩ = some v)
    (hq : D.q.length + l.length ≤ 900000) (hl : pl + l.length ≤ 1000000) {R : Ending → World → Prop} (h : ∀ w', DkTo w own p (Jn.put D pl l).2 w' → R (.returned (.int .i64 (Jn.put D pl l).1)) w') :
    Calls Tryz.prog 51 #[.pointer (some ⟨a2, 0, none⟩), .pointer (some ⟨a6, 0, none⟩), .pointer (some ⟨a8, 0, none⟩)] w R := by
  have HRR := Lib.hid h
  clear h
  have HBN := Lib.hid hb
  clear hb
  obtain ⟨ao, cap, rfl, hle, hv⟩ := HV.out
  obtain ⟨n, hn⟩ : ∃ n, n = l.length := ⟨_, rfl⟩
  rw [← hn] at HV HK c8
  have HNN := Lib.hid hn
  clear hn hle hv
  go_enter Tryz.func51, Tryz.ntmps51
  go_wp2_with fail
  refine jwrite_r H HJ HBN.out pl l _ HV HK hq hl (fun w' h' => ?_)
  have HP := Lib.hid h'
  obtain ⟨e, he⟩ : ∃ e, e = (Jn.put D pl l).1 := ⟨_, rfl⟩
  have HE := Lib.hid he
  rw [← he]
  clear h' he
  go_wp2_with fail
  have h9 := HRR.out w' HP.out
  rw [← HE.out] at h9
  exact h9
set_option maxHeartbeats 1000000 in
theorem stepC_r {w : World} (HL : Hid (Laid w)) {own : List Nat} {b p : Nat} {D : DK} (H : Hid (DkAt w own p D)) (HJ : Hid (w.cell? ⟨b, 0, none⟩ = some (.pointer (some ⟨p, 0, none⟩)))) (hb : b ∉ own) (nx : Nat) (a2 a7 : Nat)
    (c2 : w.cell? ⟨a2, 0, none⟩ = some (.pointer (some ⟨b, 0, none⟩))) (c7 : w.cell? ⟨a7, 0, none⟩ = some (.int .i64 (nx : Int))) (h2 : a2 ∉ own) (h7 : a7 ∉ own) (hnx : nx ≤ 10000)
    (hq : D.q.length ≤ 800000) {R : Ending → World → Prop} (h : ∀ w', DkTo w own p (Jn.put D 1 [Jn.head Dg.sum 1 nx]).2 w' → R (.returned (.int .i64 (Jn.put D 1 [Jn.head Dg.sum 1 nx]).1)) w') :
    Calls Tryz.prog 52 #[.pointer (some ⟨a2, 0, none⟩), .pointer (some ⟨a7, 0, none⟩)] w R := by
  have HRR := Lib.hid h
  have HBN := Lib.hid hb
  have H2 := Lib.hid h2
  have H7 := Lib.hid h7
  have C2 := Lib.hid c2
  have C7 := Lib.hid c7
  clear h hb h2 h7 c2 c7
  go_enter Tryz.func52, Tryz.ntmps52
  go_upto_region 1 with (fail)
  refine wp_region_held_drew (S := fun W' => Chg own w W') (by kernel_rfl) ((Chg.refl _ _).drew) (fun hHeld => ?_)
  obtain ⟨wd, hwd⟩ : ∃ x, x = w.drew := ⟨_, rfl⟩
  rw [← hwd] at hHeld ⊢
  have CD : Hid (Chg [] w wd) := Lib.hid (by rw [hwd]; exact (Chg.refl _ _).drew)
  clear hwd
  refine tk 0 ?va0 ?hya0 ?rsa0
  case hya0 => (intro w9 hSw; have t0 := cell_quiet hSw C2.out H2.out; go_simp; try with_reducible rfl)
  try simp only [qq]
  refine tk 1 ?va1 ?hya1 ?rsa1
  case hya1 => (intro w9 hSw; have t0 := cell_quiet hSw C7.out H7.out; go_simp; try with_reducible rfl)
  try simp only [qq]
  refine rd1 2 (fun K hK => ?_)
  go_simp
  refine head44_r (Lib.hid (HL.out.quiet CD.out)) 1 nx (by decide) (by omega) (fun w4 h4 => ?_)
  have C4 : Hid (Chg [] w w4) := Lib.hid (CD.out.trans h4 (by simp))
  obtain ⟨hh, hhh⟩ : ∃ h, h = Jn.head Dg.sum 1 nx := ⟨_, rfl⟩
  rw [← hhh]
  rw [← hhh] at HRR
  clear h4 hhh
  refine hK.out _ _ (C4.out.mono (by simp)) (fun hHeld => ?_)
  clear hK K
  try simp only [qq]
  refine rd1 3 (fun K hK => ?_)
  go_simp
  have C5 : Hid (Chg [] w4 (w4.alloc (.cells #[.string ⟨hh.toArray⟩] 9))) := Lib.hid ((Chg.refl _ _).alloc _)
  have C5w : Hid (Chg [] w (w4.alloc (.cells #[.string ⟨hh.toArray⟩] 9))) := Lib.hid (C4.out.trans C5.out (by simp))
  refine hK.out _ _ (C5w.out.mono (by simp)) (fun hHeld => ?_)
  clear hK K
  try simp only [qq]
  refine rd1 4 (fun K hK => ?_)
  go_simp
  refine jwrite_r (Lib.hid (H.out.kept C5w.out (by simp))) (Lib.hid (cell_quiet C5w.out HJ.out (by simp))) HBN.out 1 [hh] _ (Lib.hid (strs_one w4 hh)) (Lib.hid (fun ad n c h9 hm => by
    have h8 := H.out.lt _ hm
    have h7 := C4.out.size
    injection h9 with h9
    injection h9 with h9
    subst h9
    simp only at h8
    omega)) (by simp only [List.length_singleton]; omega) (by simp) (fun w' h' => ?_)
  have HP : Hid (DkTo w own p (Jn.put D 1 [hh]).2 w') := Lib.hid (DkTo.trans (C5w.out.mono (by simp)) (fun k hk => .inl hk) h')
  obtain ⟨e, he⟩ : ∃ e, e = (Jn.put D 1 [hh]).1 := ⟨_, rfl⟩
  have HE := Lib.hid he
  rw [← he]
  clear h' he
  have HCH : Hid (Chg own w w') := Lib.hid (by obtain ⟨o9, h1, h2, h3⟩ := HP.out; exact h2)
  refine hK.out _ _ HCH.out (fun hHeld => ?_)
  clear hK K
  try simp only [qq]
  refine tk 5 ?va5 ?hya5 ?rsa5
  case hya5 => (intro w9 hSw; go_simp; try with_reducible rfl)
  try simp only [qq]
  refine wpAnyH_done (by kernel_rfl) ?_ _
  try simp only [qq]
  clear hHeld
  go_wp2_with fail
  have h9 := HRR.out w' HP.out
  rw [← HE.out] at h9
  exact h9
set_option maxHeartbeats 1000000 in
theorem stepD_r {w : World} (HL : Hid (Laid w)) {own : List Nat} {b p : Nat} {D : DK} (H : Hid (DkAt w own p D)) (HJ : Hid (w.cell? ⟨b, 0, none⟩ = some (.pointer (some ⟨p, 0, none⟩)))) (hb : b ∉ own) (nx : Nat) (a2 a7 : Nat)
    (c2 : w.cell? ⟨a2, 0, none⟩ = some (.pointer (some ⟨b, 0, none⟩))) (c7 : w.cell? ⟨a7, 0, none⟩ = some (.int .i64 (nx : Int))) (h2 : a2 ∉ own) (h7 : a7 ∉ own) (hnx : nx ≤ 10000)
    (hq : D.q.length ≤ 800000) {R : Ending → World → Prop} (h : ∀ w', DkTo w own p (Jn.put D 0 [Jn.head Dg.sum 0 nx]).2 w' → R (.returned (.int .i64 (Jn.put D 0 [Jn.head Dg.sum 0 nx]).1)) w') :
    Calls Tryz.prog 53 #[.pointer (some ⟨a2, 0, none⟩), .pointer (some ⟨a7, 0, none⟩)] w R := by
  have HRR := Lib.hid h
  have HBN := Lib.hid hb
  have H2 := Lib.hid h2
  have H7 := Lib.hid h7
  have C2 := Lib.hid c2
  have C7 := Lib.hid c7
  clear h hb h2 h7 c2 c7
  go_enter Tryz.func53, Tryz.ntmps53
  go_upto_region 1 with (fail)
  refine wp_region_held_drew (S := fun W' => Chg own w W') (by kernel_rfl) ((Chg.refl _ _).drew) (fun hHeld => ?_)
  obtain ⟨wd, hwd⟩ : ∃ x, x = w.drew := ⟨_, rfl⟩
  rw [← hwd] at hHeld ⊢
  have CD : Hid (Chg [] w wd) := Lib.hid (by rw [hwd]; exact (Chg.refl _ _).drew)
  clear hwd
  refine tk 0 ?va0 ?hya0 ?rsa0
  case hya0 => (intro w9 hSw; have t0 := cell_quiet hSw C2.out H2.out; go_simp; try with_reducible rfl)
  try simp only [qq]
  refine tk 1 ?va1 ?hya1 ?rsa1
  case hya1 => (intro w9 hSw; have t0 := cell_quiet hSw C7.out H7.out; go_simp; try with_reducible rfl)
  try simp only [qq]
  refine rd1 2 (fun K hK => ?_)
  go_simp
  refine head44_r (Lib.hid (HL.out.quiet CD.out)) 0 nx (by decide) (by omega) (fun w4 h4 => ?_)
  have C4 : Hid (Chg [] w w4) := Lib.hid (CD.out.trans h4 (by simp))
  obtain ⟨hh, hhh⟩ : ∃ h, h = Jn.head Dg.sum 0 nx := ⟨_, rfl⟩
  rw [← hhh]
  rw [← hhh] at HRR
  clear h4 hhh
  refine hK.out _ _ (C4.out.mono (by simp)) (fun hHeld => ?_)
  clear hK K
  try simp only [qq]
  refine rd1 3 (fun K hK => ?_)
  go_simp
  have C5 : Hid (Chg [] w4 (w4.alloc (.cells #[.string ⟨hh.toArray⟩] 9))) := Lib.hid ((Chg.refl _ _).alloc _)
  have C5w : Hid (Chg [] w (w4.alloc (.cells #[.string ⟨hh.toArray⟩] 9))) := Lib.hid (C4.out.trans C5.out (by simp))
  refine hK.out _ _ (C5w.out.mono (by simp)) (fun hHeld => ?_)
  clear hK K
  try simp only [qq]
  refine rd1 4 (fun K hK => ?_)
  go_simp
  refine jwrite_r (Lib.hid (H.out.kept C5w.out (by simp))) (Lib.hid (cell_quiet C5w.out HJ.out (by simp))) HBN.out 0 [hh] _ (Lib.hid (strs_one w4 hh)) (Lib.hid (fun ad n c h9 hm => by
    have h8 := H.out.lt _ hm
    have h7 := C4.out.size
    injection h9 with h9
    injection h9 with h9
    subst h9
    simp only at h8
    omega)) (by simp only [List.length_singleton]; omega) (by simp) (fun w' h' => ?_)
  have HP : Hid (DkTo w own p (Jn.put D 0 [hh]).2 w') := Lib.hid (DkTo.trans (C5w.out.mono (by simp)) (fun k hk => .inl hk) h')
  obtain ⟨e, he⟩ : ∃ e, e = (Jn.put D 0 [hh]).1 := ⟨_, rfl⟩
  have HE := Lib.hid he
  rw [← he]
  clear h' he
  have HCH : Hid (Chg own w w') := Lib.hid (by obtain ⟨o9, h1, h2, h3⟩ := HP.out; exact h2)
  refine hK.out _ _ HCH.out (fun hHeld => ?_)
  clear hK K
  try simp only [qq]
  refine tk 5 ?va5 ?hya5 ?rsa5
  case hya5 => (intro w9 hSw; go_simp; try with_reducible rfl)
  try simp only [qq]
  refine wpAnyH_done (by kernel_rfl) ?_ _
  try simp only [qq]
  clear hHeld
  go_wp2_with fail
  have h9 := HRR.out w' HP.out
  rw [← HE.out] at h9
  exact h9
end Go.Proofs.YtpmkgedlnanjiaaGreatDoor
