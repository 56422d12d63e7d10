/-
 Plan, the reference, layer 1: the reader; fail, sees, must.
-/
import Derived.Test.YtocadlcglgpdcaaDoorPnY
namespace Go.Proofs.YtocadlcglgpdcaaDoor
set_option linter.unusedVariables false
set_option linter.unusedSimpArgs false
open Go Go.RowKit Go.Shelf
open Lx (Tk)
attribute [local go_sem ↓] Go.wp_at_zero Go.wp_at_succ
attribute [local irreducible] Go.wpStill
theorem qr : (∀ (l : List Oper) (i : Nat) (h : i < l.toArray.size), l.toArray[i] = l[i]'(by simpa using h)) ∧ (∀ (a : Oper) (l : List Oper) (i : Nat) (h : i + 1 < (a :: l).length), (a :: l)[i + 1] = l[i]'(Nat.lt_of_succ_lt_succ h)) ∧ (∀ (a : Oper) (l : List Oper) (h : 0 < (a :: l).length), (a :: l)[0] = a) ∧ (∀ (l : List Bool) (i : Nat) (v : Bool), l.toArray.setIfInBounds i v = (l.set i v).toArray) ∧ (∀ (a v : Bool) (l : List Bool), (a :: l).set 0 v = v :: l) ∧ ∀ (a v : Bool) (l : List Bool) (i : Nat), (a :: l).set (i + 1) v = a :: l.set i v :=
 ⟨fun _ _ _ => rfl, fun _ _ _ _ => rfl, fun _ _ _ => rfl, fun _ _ _ => List.setIfInBounds_toArray .., fun _ _ _ => rfl, fun _ _ _ _ => rfl⟩
/-- A reader at block b: the tokens that are left, its error and its offset. -/
def Rp (w : World) (b : Nat) (q : List Tk) (er a en : Nat) : Prop := ∃ (L : List Tk) (i : Nat) (ao : Option Addr) (cap : Nat), q = L.drop i ∧ i ≤ L.length ∧ L.length ≤ 1000000 ∧ Blk w b [.slice ao L.length cap, .int .i64 (i : Int), .int .i64 (er : Int), .int .i64 (a : Int), .int .i64 (en : Int)] 77 ∧ TokS w (.slice ao L.length cap) L ∧ (L ≠ [] → ∀ ad, ao = some ad → ad.block < b)
theorem Rp.keep {w w' : World} {b er a en : Nat} {l : List Tk} {own : List Nat} (h : Rp w b l er a en) (hc : Chg own w w') (ho : ∀ k ∈ own, b < k) : Rp w' b l er a en := by
 obtain ⟨L, i, ao, cap, e1, e2, e3, h1, h2, h3⟩ := h
 refine ⟨L, i, ao, cap, e1, e2, e3, hc.blk h1 (fun hm => Nat.lt_irrefl _ (ho b hm)), h2.keep hc (fun hl ad ha hm => ?_), h3⟩
 have h4 := h3 hl ad ha
 have h5 := ho _ hm
 omega
theorem Rp.quiet {w w' : World} {b er a en : Nat} {l : List Tk} (h : Rp w b l er a en) (hc : Chg [] w w') : Rp w' b l er a en := h.keep hc (by simp)
theorem Rp.lt {w : World} {b er a en : Nat} {l : List Tk} (h : Rp w b l er a en) : b < w.heap.size := by
 obtain ⟨L, i, ao, cap, e1, e2, e3, h1, _⟩ := h
 exact h1.lt
theorem Rp.small {w : World} {b er a en : Nat} {l : List Tk} (h : Rp w b l er a en) : l.length ≤ 1000000 := by
 obtain ⟨L, i, ao, cap, e1, e2, e3, h1, _⟩ := h
 rw [e1, List.length_drop]
 omega
/-- Another error is written. -/
theorem Rp.err {w w' : World} {b er a en er' a' : Nat} {l : List Tk} (h : Rp w b l er a en) (hc : Chg [b] w w')
 (hb : ∀ c0 c1 c4 E, Blk w b [c0, c1, .int .i64 (er : Int), .int .i64 (a : Int), c4] E → Blk w' b [c0, c1, .int .i64 (er' : Int), .int .i64 (a' : Int), c4] E) : Rp w' b l er' a' en := by
 obtain ⟨L, i, ao, cap, e1, e2, e3, h1, h2, h3⟩ := h
 refine ⟨L, i, ao, cap, e1, e2, e3, hb _ _ _ _ h1, h2.keep hc (fun hl ad ha hm => ?_), h3⟩
 have h4 := h3 hl ad ha
 simp at hm
 omega
/-- The same, with the cells written out. -/
theorem Rp.err2 {w w' : World} {b er a en er' a' n i : Nat} {ao : Option Addr} {cap : Nat} {l : List Tk} (h : Rp w b l er a en) (hb : Blk w b [.slice ao n cap, .int .i64 (i : Int), .int .i64 (er : Int), .int .i64 (a : Int), .int .i64 (en : Int)] 77) (hc : Chg [b] w w')
 (hb' : Blk w' b [.slice ao n cap, .int .i64 (i : Int), .int .i64 (er' : Int), .int .i64 (a' : Int), .int .i64 (en : Int)] 77) : Rp w' b l er' a' en := by
 refine h.err hc (fun c0 c1 c4 E hx => ?_)
 unfold Blk at hb hx hb' ⊢
 rw [hb] at hx
 simp only [Option.some.injEq, Obj.cells.injEq, List.toArray_inj, List.cons.injEq] at hx
 obtain ⟨⟨rfl, rfl, -, -, rfl, -⟩, rfl, -⟩ := hx
 exact hb'
theorem Rp.nil {w : World} {b er a en : Nat} (h : Rp w b [] er a en) : ∃ n ao cap, Blk w b [.slice ao n cap, .int .i64 (n : Int), .int .i64 (er : Int), .int .i64 (a : Int), .int .i64 (en : Int)] 77 := by
 obtain ⟨L, i, ao, cap, e1, e2, e3, h1, _⟩ := h
 have : i = L.length := by
  have := congrArg List.length e1
  simp at this
  omega
 subst this
 exact ⟨_, ao, cap, h1⟩
theorem Rp.any {w : World} {b er a en : Nat} {l : List Tk} (h : Rp w b l er a en) : ∃ n i ao cap, Blk w b [.slice ao n cap, .int .i64 ((i : Nat) : Int), .int .i64 (er : Int), .int .i64 (a : Int), .int .i64 (en : Int)] 77 := by
 obtain ⟨L, i, ao, cap, e1, e2, e3, h1, _⟩ := h
 exact ⟨_, i, ao, cap, h1⟩
theorem Rp.cons {w : World} {b er a en : Nat} {t : Tk} {r : List Tk} (h : Rp w b (t :: r) er a en) : ∃ (n i g off cap : Nat), i < n ∧ n ≤ 1000000 ∧ Blk w b [.slice (some ⟨g, off, none⟩) n cap, .int .i64 (i : Int), .int .i64 (er : Int), .int .i64 (a : Int), .int .i64 (en : Int)] 77 ∧ n ≤ cap ∧ g < b ∧
 (w.cell? ⟨g, off + i * 4, none⟩ = some (.int .i64 t.kind) ∧ w.cell? ⟨g, off + i * 4 + 1, none⟩ = some (.string ⟨t.text.toArray⟩) ∧ w.cell? ⟨g, off + i * 4 + 2, none⟩ = some (.int .i64 t.n) ∧ w.cell? ⟨g, off + i * 4 + 3, none⟩ = some (.int .i64 t.at_)) ∧
 ∀ w', Chg [b] w w' → Blk w' b [.slice (some ⟨g, off, none⟩) n cap, .int .i64 ((i : Int) + 1), .int .i64 (er : Int), .int .i64 (a : Int), .int .i64 (en : Int)] 77 → Rp w' b r er a en := by
 obtain ⟨L, i, ao, cap, e1, e2, e3, h1, h2, h3⟩ := h
 have hg : L[i]? = some t := by
  have := congrArg (fun x => x[0]?) e1
  simpa using this.symm
 have hi : i < L.length := (List.getElem?_eq_some_iff.1 hg).1
 have hr : r = L.drop (i + 1) := by
  have := congrArg List.tail e1
  simpa using this
 obtain ⟨ao', cap', he, h4, h5⟩ := h2
 cases he
 obtain ⟨g, off, rfl, k0, k1, k2, k3⟩ := h5 i t hg
 have hln : L ≠ [] := fun e => by rw [e] at hi; simp at hi
 have hgb : g < b := h3 hln ⟨g, off, none⟩ rfl
 rw [Nat.mul_comm 4 i] at k0 k1 k2 k3
 refine ⟨L.length, i, g, off, cap, hi, e3, h1, h4, hgb, ⟨k0, k1, k2, k3⟩, fun w' hc hb => ⟨L, i + 1, some ⟨g, off, none⟩, cap, hr, hi, e3, hb, ?_, h3⟩⟩
 exact TokS.keep ⟨_, _, rfl, h4, h5⟩ hc (fun _ ad ha => by cases ha; show g ∉ [b]; simp only [List.mem_cons, List.not_mem_nil, or_false]; exact Nat.ne_of_lt hgb)
/-- What a part of the reference comes to: it is what the parser's part comes to, unless there was an error before. -/
def RR {α : Type} (f : List Tk → Rl.Out α) (en : Nat) (q : List Tk) (er a : Nat) (x : α) (q' : List Tk) (er' a' : Nat) : Prop :=
 (er ≠ 0 → er' = er ∧ a' = a) ∧ (er = 0 → match f q with
  | .ok y r => x = y ∧ q' = r ∧ er' = 0
  | .bad c r => er' = Rl.code c r ∧ a' = Rl.place en r ∧ er' ≠ 0)
theorem RR.pure {α : Type} (x : α) (en : Nat) (q : List Tk) (er a : Nat) : RR (fun l => .ok x l) en q er a x q er a := ⟨fun _ => ⟨rfl, rfl⟩, fun h => ⟨rfl, rfl, h⟩⟩
theorem RR.bind {α β : Type} {f : List Tk → Rl.Out α} {g : α → List Tk → Rl.Out β} {en : Nat} {q q1 q2 : List Tk} {er a er1 a1 er2 a2 : Nat} {x : α} {y : β} (h1 : RR f en q er a x q1 er1 a1) (h2 : RR (g x) en q1 er1 a1 y q2 er2 a2) : RR (fun l => (f l).bind g) en q er a y q2 er2 a2 := by
 refine ⟨fun h => ?_, fun h => ?_⟩
 · obtain ⟨k1, k2⟩ := h1.1 h
   obtain ⟨k3, k4⟩ := h2.1 (by rw [k1]; exact h)
   exact ⟨k3.trans k1, k4.trans k2⟩
 · have k := h1.2 h
   cases hf : f q with
   | ok z r =>
    rw [hf] at k
    obtain ⟨rfl, rfl, k3⟩ := k
    show match (f q).bind g with
     | .ok y1 r => y = y1 ∧ q2 = r ∧ er2 = 0
     | .bad c r => er2 = Rl.code c r ∧ a2 = Rl.place en r ∧ er2 ≠ 0
    rw [hf]
    exact h2.2 k3
   | bad c r =>
    rw [hf] at k
    obtain ⟨k1, k2, k3⟩ := k
    obtain ⟨k4, k5⟩ := h2.1 k3
    show match (f q).bind g with
     | .ok y1 r => y = y1 ∧ q2 = r ∧ er2 = 0
     | .bad c r => er2 = Rl.code c r ∧ a2 = Rl.place en r ∧ er2 ≠ 0
    rw [hf]
    exact ⟨k4.trans k1, k5.trans k2, by rw [k4]; exact k3⟩
theorem RR.map {α β : Type} {f : List Tk → Rl.Out α} {en : Nat} {q q1 : List Tk} {er a er1 a1 : Nat} {x : α} (g : α → β) (h1 : RR f en q er a x q1 er1 a1) : RR (fun l => (f l).bind fun z r => .ok (g z) r) en q er a (g x) q1 er1 a1 := h1.bind (RR.pure _ _ _ _ _)
theorem code4_ne (r : List Tk) : Rl.code 4 r ≠ 0 := by
 unfold Rl.code
 split <;> decide
/-- What fail leaves. -/
def FR (en : Nat) (q : List Tk) (er a er' a' : Nat) : Prop := (er ≠ 0 → er' = er ∧ a' = a) ∧ (er = 0 → er' = Rl.code 4 q ∧ a' = Rl.place en q)
theorem RR.fail {α : Type} {f : List Tk → Rl.Out α} {en : Nat} {q : List Tk} {er a er' a' : Nat} (h : FR en q er a er' a') (hf : er = 0 → f q = .bad 4 q) (x : α) (q' : List Tk) : RR f en q er a x q' er' a' := ⟨h.1, fun h0 => by
 rw [hf h0]
 obtain ⟨h1, h2⟩ := h.2 h0
 exact ⟨h1, h2, by rw [h1]; exact code4_ne q⟩⟩
set_option maxHeartbeats 1000000 in
set_option maxRecDepth 100000 in
theorem rfail_r {w : World} {b er a en : Nat} {q : List Tk} (HP : Hid (Rp w b q er a en)) {R : Ending → World → Prop}
 (h : ∀ (er' a' : Nat) (w' : World), Hid (FR en q er a er' a') → Hid (Rp w' b q er' a' en) → Hid (Chg [b] w w') → R (.returned (.tuple #[])) w') :
 Calls Tryd.prog 31 #[.pointer (some ⟨b, 0, none⟩)] w R := by
 by_cases he : er = 0
 · have e0 : ((er : Int) != 0) = false := by rw [he]; rfl
   cases q with
   | nil =>
    refine (show Calls Tryd.prog 31 #[.pointer (some ⟨b, 0, none⟩)] w (fun e w' => e = .returned (.tuple #[]) ∧ Rp w' b [] 7 en en ∧ Chg [b] w w') from ?_).mono (fun e w' hx => by obtain ⟨rfl, h2, h3⟩ := hx; exact h 7 en w' (hd ⟨fun h9 => absurd he h9, fun _ => ⟨rfl, rfl⟩⟩) (hd h2) (hd h3))
    clear h
    obtain ⟨n, ao, cap, hb⟩ := HP.out.nil
    have HB := hd hb
    have c0 := hb.cell (i := 0) rfl
    have c1 := hb.cell (i := 1) rfl
    have c2 := hb.cell (i := 2) rfl
    have n0 : ¬ (n : Int) < (n : Int) := by omega
    clear hb
    go_enter Tryd.func31, Tryd.ntmps31
    have HE := hd he
    clear he
    go_upto_region 1 with fail
    go_quiet (fail)
    go_upto_region 4 with fail
    obtain ⟨V, hV⟩ : ∃ V, V = w.drewN nq := ⟨_, rfl⟩
    rw [← hV]
    have HCV : Hid (Chg [] w V) := hd (by rw [hV]; exact chg_drewN _ _)
    have HBV := hd (HCV.out.blk HB.out (by simp))
    have d2 := HBV.out.cell (i := 2) rfl
    have d3 := HBV.out.cell (i := 3) rfl
    have d4 := HBV.out.cell (i := 4) rfl
    have f2 := HBV.out.free 2
    have f3 := HBV.out.free 3
    clear hV c0 c1 c2
    go_wp2_with fail
    have HC : Hid (Chg [b] w ((V.setCell ⟨b, 2, none⟩ (.int .i64 7)).setCell ⟨b, 3, none⟩ (.int .i64 (en : Int)))) := hd (((HCV.out.mono (by simp)).setCell _ _ (.inl (by simp))).setCell _ _ (.inl (by simp)))
    refine bodyPost_end (results_none rfl _ _ _) rfl ⟨rfl, HP.out.err HC.out (fun c0 c1 c4 E hb => ((HCV.out.blk hb (by simp)).set 2 _).set 3 _), HC.out⟩
   | cons t r =>
    refine (show Calls Tryd.prog 31 #[.pointer (some ⟨b, 0, none⟩)] w (fun e w' => e = .returned (.tuple #[]) ∧ Rp w' b (t :: r) 4 t.at_ en ∧ Chg [b] w w') from ?_).mono (fun e w' hx => by obtain ⟨rfl, h2, h3⟩ := hx; exact h 4 t.at_ w' (hd ⟨fun h9 => absurd he h9, fun _ => ⟨rfl, rfl⟩⟩) (hd h2) (hd h3))
    clear h
    obtain ⟨n, i, g, off, cap, hi, hn, hb, hcap, hgb, ⟨k0, k1, k2, k3⟩, -⟩ := HP.out.cons
    have HB := hd hb
    have c0 := hb.cell (i := 0) rfl
    have c1 := hb.cell (i := 1) rfl
    have c2 := hb.cell (i := 2) rfl
    have n0 : (i : Int) < (n : Int) := by omega
    have n1 : (0 : Int) ≤ (i : Int) := by omega
    have n2 : (i : Int) ≤ (cap : Int) := by omega
    have n3 : ((i : Int)).toNat = i := by omega
    have K3 := hd k3
    have HGB := hd hgb
    clear hb k0 k1 k2 k3
    go_enter Tryd.func31, Tryd.ntmps31
    have HE := hd he
    clear he
    go_upto_region 1 with fail
    go_quiet (fail)
    go_upto_region 2 with fail
    obtain ⟨V, hV⟩ : ∃ V, V = w.drewN nq := ⟨_, rfl⟩
    rw [← hV]
    have HCV : Hid (Chg [] w V) := hd (by rw [hV]; exact chg_drewN _ _)
    have HBV := hd (HCV.out.blk HB.out (by simp))
    have d2 := HBV.out.cell (i := 2) rfl
    have f2 := HBV.out.free 2
    clear hV c0 c1 c2
    go_upto_region 3 with fail
    obtain ⟨U, hU⟩ : ∃ U, U = V.setCell ⟨b, 2, none⟩ (.int .i64 4) := ⟨_, rfl⟩
    rw [← hU]
    have HBU := hd (show Blk U b _ _ by rw [hU]; exact HBV.out.set 2 (.int .i64 4))
    have HCU : Hid (Chg [b] w U) := hd (by rw [hU]; exact (HCV.out.mono (by simp)).setCell _ _ (.inl (by simp)))
    have K4 : Hid (U.cell? ⟨g, off + i * 4 + 3, none⟩ = some (.int .i64 t.at_)) := hd ((World.cell?_of_block (HCU.out.block g (World.block_lt_of_cell? _ _ K3.out) (by have := HGB.out; simp; omega))).trans K3.out)
    clear hU d2 f2
    clear n0
    refine wp_region_held_drew (S := fun W' => (∃ y, Blk W' b [.slice (some ⟨g, off, none⟩) n cap, .int .i64 (i : Int), .int .i64 4, y, .int .i64 (en : Int)] 77) ∧ W'.cell? ⟨g, off + i * 4 + 3, none⟩ = some (.int .i64 t.at_) ∧ Chg [b] w W') (by kernel_rfl) ⟨⟨_, HBU.out.drew⟩, K4.out, HCU.out.drew⟩ (fun hHeld => ?_)
    obtain ⟨ud, hud⟩ : ∃ x, x = U.drew := ⟨_, rfl⟩
    rw [← hud] at hHeld ⊢
    clear hud
    refine tk 0 (v := ?va0) rfl (by kernel_rfl) (fun _ _ _ h => h) ?hya0 (by assumption) ?rsa0
    case hya0 => (intro w9 hSw; go_simp; try with_reducible rfl)
    try simp only [qq, qr]
    refine tk 1 (v := ?va1) rfl (by kernel_rfl) (fun _ _ _ h => h) ?hya1 (by assumption) ?rsa1
    case hya1 => (intro w9 hSw; go_simp; try with_reducible rfl)
    try simp only [qq, qr]
    refine tk 2 (v := ?va2) rfl (by kernel_rfl) (fun _ _ _ h => h) ?hya2 (by assumption) ?rsa2
    case hya2 => (intro w9 hSw; go_simp; try with_reducible rfl)
    try simp only [qq, qr]
    refine tk 3 (v := ?va3) rfl (by kernel_rfl) (fun _ _ _ h => h) ?hya3 (by assumption) ?rsa3
    case hya3 => (intro w9 hSw; go_simp; try with_reducible rfl)
    try simp only [qq, qr]
    refine tk 4 (v := ?va4) rfl (by kernel_rfl) (fun _ _ _ h => h) ?hya4 (by assumption) ?rsa4
    case hya4 => (intro w9 hSw; obtain ⟨⟨y9, hy9⟩, d3, -⟩ := hSw; have d0 := hy9.cell (i := 0) rfl; have d1 := hy9.cell (i := 1) rfl; go_simp; try with_reducible rfl)
    try simp only [qq, qr]
    refine tk 5 (v := ?va5) rfl (by kernel_rfl) (fun _ _ _ h => h) ?hya5 (by assumption) ?rsa5
    case hya5 => (intro w9 hSw; go_simp; try with_reducible rfl)
    try simp only [qq, qr]
    refine tk 6 (v := ?va6) rfl (by kernel_rfl) (fun _ _ _ h => h) ?hya6 (by assumption) ?rsa6
    case hya6 => (intro w9 hSw; go_simp; try with_reducible rfl)
    try simp only [qq, qr]
    refine tk 7 (v := ?va7) rfl (by kernel_rfl) (fun _ _ _ h => h) ?hya7 (by assumption) ?rsa7
    case hya7 => (intro w9 hSw; go_simp; try with_reducible rfl)
    try simp only [qq, qr]
    refine tk 8 (v := ?va8) rfl (by kernel_rfl) (fun _ _ _ h => h) ?hya8 (by assumption) ?rsa8
    case hya8 => (intro w9 hSw; obtain ⟨⟨y9, hy9⟩, d3, -⟩ := hSw; have d0 := hy9.cell (i := 0) rfl; have d1 := hy9.cell (i := 1) rfl; go_simp; try with_reducible rfl)
    try simp only [qq, qr]
    refine tk 9 (v := ?va9) rfl (by kernel_rfl) (fun _ _ _ h => h) ?hya9 (by assumption) ?rsa9
    case hya9 => (intro w9 hSw; go_simp; try with_reducible rfl)
    try simp only [qq, qr]
    refine tk 10 (v := ?va10) rfl (by kernel_rfl) (fun _ _ _ h => h) ?hya10 (by assumption) ?rsa10
    case hya10 => (intro w9 hSw; go_simp; try with_reducible rfl)
    try simp only [qq, qr]
    refine tk 11 (v := ?va11) rfl (by kernel_rfl) (fun _ _ _ h => h) ?hya11 (by assumption) ?rsa11
    case hya11 => (intro w9 hSw; obtain ⟨⟨y9, hy9⟩, d3, -⟩ := hSw; have d0 := hy9.cell (i := 0) rfl; have d1 := hy9.cell (i := 1) rfl; go_simp; try with_reducible rfl)
    try simp only [qq, qr]
    refine tk 12 (v := ?va12) rfl (by kernel_rfl) (fun _ _ _ h => h) ?hya12 (by assumption) ?rsa12
    case hya12 => (intro w9 hSw; go_simp; try with_reducible rfl)
    try simp only [qq, qr]
    refine tk 13 (v := ?va13) rfl (by kernel_rfl) (fun _ _ _ h => h) ?hya13 (by assumption) ?rsa13
    case hya13 => (intro w9 hSw; go_simp; try with_reducible rfl)
    try simp only [qq, qr]
    refine rd1 14 (by kernel_rfl) rfl (fun K hK => ?_)
    obtain ⟨⟨y9, hy9⟩, hd3, hcw⟩ := hHeld
    have y3 := hy9.cell (i := 3) rfl
    have f3 := hy9.free 3
    go_simp
    have HYB : Hid (Blk (ud.setCell ⟨b, 3, none⟩ (.int .i64 t.at_)) b [.slice (some ⟨g, off, none⟩) n cap, .int .i64 (i : Int), .int .i64 4, .int .i64 t.at_, .int .i64 (en : Int)] 77) := hd (hy9.set 3 _)
    have HCD : Hid (Chg [b] w (ud.setCell ⟨b, 3, none⟩ (.int .i64 t.at_))) := hd (hcw.setCell _ _ (.inl (by simp)))
    have HDC : Hid ((ud.setCell ⟨b, 3, none⟩ (.int .i64 t.at_)).cell? ⟨g, off + i * 4 + 3, none⟩ = some (.int .i64 t.at_)) := hd ((World.cell?_of_block (((Chg.refl [b] ud).setCell ⟨b, 3, none⟩ (.int .i64 t.at_) (.inl (by simp))).block g (World.block_lt_of_cell? _ _ hd3) (by have := HGB.out; simp; omega))).trans hd3)
    obtain ⟨ue, hue⟩ : ∃ x, x = ud.setCell ⟨b, 3, none⟩ (.int .i64 t.at_) := ⟨_, rfl⟩
    rw [← hue] at HYB HCD HDC ⊢
    clear y3 f3 hy9 hd3 hcw hue
    refine hK.out _ _ ⟨⟨_, HYB.out⟩, HDC.out, HCD.out⟩ (fun _ => ?_)
    clear hK K
    try simp only [qq, qr]
    refine wpAnyH_done (by kernel_rfl) ?_ _
    try simp only [qq, qr]
    go_wp2_with fail
    refine bodyPost_end (results_none rfl _ _ _) rfl ⟨rfl, HP.out.err2 HB.out HCD.out HYB.out, HCD.out⟩
 · have e0 : ((er : Int) != 0) = true := bne_iff_ne.2 (by omega)
   refine (show Calls Tryd.prog 31 #[.pointer (some ⟨b, 0, none⟩)] w (fun e w' => e = .returned (.tuple #[]) ∧ Chg [] w w') from ?_).mono (fun e w' hx => by obtain ⟨rfl, h2⟩ := hx; exact h er a w' (hd ⟨fun _ => ⟨rfl, rfl⟩, fun h9 => absurd h9 he⟩) (hd (HP.out.quiet h2)) (hd (h2.mono (by simp))))
   clear h
   obtain ⟨n, i, ao, cap, hb⟩ := HP.out.any
   have c2 := hb.cell (i := 2) rfl
   clear hb he
   go_enter Tryd.func31, Tryd.ntmps31
   go_wp2_with fail
   exact bodyPost_ret (results_none rfl _ _ _) rfl ⟨rfl, Chg.refl _ _⟩
/-- Whether the next token is a word or a symbol, with no error so far. -/
def seesB (x : Bytes) (er : Nat) (q : List Tk) : Bool := decide (er = 0) && Pn.isw x q
set_option maxHeartbeats 1000000 in
set_option maxRecDepth 100000 in
theorem sees_r {w : World} {b er a en : Nat} {q : List Tk} (HP : Hid (Rp w b q er a en)) (x : Bytes) {R : Ending → World → Prop}
 (h : ∀ (bo : Bool) (w' : World), Hid (seesB x er q = bo) → Hid (Rp w' b q er a en) → Hid (Chg [] w w') → R (.returned (.bool bo)) w') :
 Calls Tryd.prog 29 #[.pointer (some ⟨b, 0, none⟩), .string ⟨x.toArray⟩] w R := by
 have fin : ∀ bo : Bool, seesB x er q = bo → Calls Tryd.prog 29 #[.pointer (some ⟨b, 0, none⟩), .string ⟨x.toArray⟩] w (fun e w' => e = .returned (.bool bo) ∧ Chg [] w w') → Calls Tryd.prog 29 #[.pointer (some ⟨b, 0, none⟩), .string ⟨x.toArray⟩] w R :=
  fun bo hbo hc => hc.mono (fun e w' hx => by obtain ⟨rfl, h2⟩ := hx; exact h bo w' (hd hbo) (hd (HP.out.quiet h2)) (hd h2))
 clear h
 by_cases he : er = 0
 · have e0 : ((er : Int) == 0) = true := by rw [he]; rfl
   cases q with
   | nil =>
    refine fin false (by unfold seesB; simp [Pn.isw]) ?_
    clear fin
    obtain ⟨n, ao, cap, hb⟩ := HP.out.nil
    have c0 := hb.cell (i := 0) rfl
    have c1 := hb.cell (i := 1) rfl
    have c2 := hb.cell (i := 2) rfl
    have n0 : ¬ (n : Int) < (n : Int) := by omega
    clear hb
    go_enter Tryd.func29, Tryd.ntmps29
    clear he
    go_upto_region 1 with fail
    go_quiet (fail)
    go_wp2_with fail
    go_ret
    exact ⟨rfl, chg_drewN _ _⟩
   | cons t r =>
    obtain ⟨n, i, g, off, cap, hi, hn, hb, hcap, hgb, ⟨k0, k1, k2, k3⟩, -⟩ := HP.out.cons
    have c0 := hb.cell (i := 0) rfl
    have c1 := hb.cell (i := 1) rfl
    have c2 := hb.cell (i := 2) rfl
    have n0 : (i : Int) < (n : Int) := by omega
    have n1 : (0 : Int) ≤ (i : Int) := by omega
    have n2 : (i : Int) ≤ (cap : Int) := by omega
    have n3 : ((i : Int)).toNat = i := by omega
    clear hb
    by_cases h2 : t.kind = 2
    · refine fin false (by unfold seesB Pn.isw; simp [h2]) ?_
      clear fin
      have m0 : ((t.kind : Int) != 2) = false := by rw [h2]; rfl
      go_enter Tryd.func29, Tryd.ntmps29
      clear he h2
      go_upto_region 1 with fail
      go_quiet (fail)
      go_wp2_with fail
      go_ret
      exact ⟨rfl, chg_drewN _ _⟩
    · have m0 : ((t.kind : Int) != 2) = true := bne_iff_ne.2 (by omega)
      by_cases h3 : t.text = x
      · refine fin true (by unfold seesB Pn.isw; simp [h2, h3, he]) ?_
        clear fin
        have m1 : (t.text == x) = true := beq_iff_eq.2 h3
        go_enter Tryd.func29, Tryd.ntmps29
        clear he h2 h3
        go_upto_region 1 with fail
        go_quiet (fail)
        go_wp2_with fail
        go_ret
        exact ⟨rfl, chg_drewN _ _⟩
      · refine fin false (by unfold seesB Pn.isw; simp [h3]) ?_
        clear fin
        have m1 : (t.text == x) = false := beq_eq_false_iff_ne.2 h3
        go_enter Tryd.func29, Tryd.ntmps29
        clear he h2 h3
        go_upto_region 1 with fail
        go_quiet (fail)
        go_wp2_with fail
        go_ret
        exact ⟨rfl, chg_drewN _ _⟩
 · have e0 : ((er : Int) == 0) = false := beq_eq_false_iff_ne.2 (by omega)
   refine fin false (by unfold seesB; simp [he]) ?_
   clear fin
   obtain ⟨n, i, ao, cap, hb⟩ := HP.out.any
   have c2 := hb.cell (i := 2) rfl
   clear hb he
   go_enter Tryd.func29, Tryd.ntmps29
   go_upto_region 1 with fail
   go_quiet (fail)
   go_wp2_with fail
   go_ret
   exact ⟨rfl, chg_drewN _ _⟩
theorem sees_true {x : Bytes} {er : Nat} {q : List Tk} (h : seesB x er q = true) : er = 0 ∧ Pn.isw x q = true := by
 unfold seesB at h
 simpa using h
theorem isw_cons {x : Bytes} {q : List Tk} (h : Pn.isw x q = true) : ∃ t r, q = t :: r ∧ t.text = x ∧ t.kind ≠ 2 := by
 cases q with
 | nil => simp [Pn.isw] at h
 | cons t r =>
  simp [Pn.isw] at h
  exact ⟨t, r, rfl, h.2, h.1⟩
/-- Stepping over a token. -/
theorem step_over {w : World} {b er a en : Nat} {t : Tk} {r : List Tk} (h : Rp w b (t :: r) er a en) : ∃ (n i : Nat) (ao : Option Addr) (cap : Nat), i < n ∧ n ≤ 1000000 ∧ Blk w b [.slice ao n cap, .int .i64 (i : Int), .int .i64 (er : Int), .int .i64 (a : Int), .int .i64 (en : Int)] 77 ∧
 ∀ w1, Chg [] w w1 → Rp (w1.setCell ⟨b, 1, none⟩ (.int .i64 ((i : Int) + 1))) b r er a en ∧ Chg [b] w (w1.setCell ⟨b, 1, none⟩ (.int .i64 ((i : Int) + 1))) := by
 obtain ⟨n, i, g, off, cap, hi, hn, hb, hcap, hgb, -, hst⟩ := h.cons
 refine ⟨n, i, _, cap, hi, hn, hb, fun w1 hc => ?_⟩
 have hc2 : Chg [b] w (w1.setCell ⟨b, 1, none⟩ (.int .i64 ((i : Int) + 1))) := (hc.mono (by simp)).setCell _ _ (.inl (by simp))
 exact ⟨hst _ hc2 ((hc.blk hb (by simp)).set 1 _), hc2⟩
set_option maxHeartbeats 1000000 in
set_option maxRecDepth 100000 in
theorem rmust_r {w : World} {b er a en : Nat} {q : List Tk} (HP : Hid (Rp w b q er a en)) (x : Bytes) {R : Ending → World → Prop}
 (h : ∀ (q' : List Tk) (er' a' : Nat) (w' : World), Hid (RR (Pn.must x) en q er a () q' er' a') → Hid (Rp w' b q' er' a' en) → Hid (Chg [b] w w') → R (.returned (.tuple #[])) w') :
 Calls Tryd.prog 26 #[.pointer (some ⟨b, 0, none⟩), .string ⟨x.toArray⟩] w R := by
 refine (show Calls Tryd.prog 26 #[.pointer (some ⟨b, 0, none⟩), .string ⟨x.toArray⟩] w (fun e w' => e = .returned (.tuple #[]) ∧ ∃ q' er' a', RR (Pn.must x) en q er a () q' er' a' ∧ Rp w' b q' er' a' en ∧ Chg [b] w w') from ?_).mono (fun e w' hx => by obtain ⟨rfl, q', er', a', h1, h2, h3⟩ := hx; exact h q' er' a' w' (hd h1) (hd h2) (hd h3))
 clear h
 go_enter Tryd.func26, Tryd.ntmps26
 go_wp2_with fail
 refine sees_r HP x (fun bo w1 HB HP1 HC1 => ?_)
 cases bo with
 | true =>
  obtain ⟨he, hi⟩ := sees_true HB.out
  obtain ⟨t, r, hq, ht, hk⟩ := isw_cons hi
  subst hq
  obtain ⟨n, i, ao, cap, k1, k2, hb, hst⟩ := step_over HP1.out
  have c1 := hb.cell (i := 1) rfl
  have f1 := hb.free 1
  have hw : IntKind.i64.wrap ((i : Int) + 1) = (i : Int) + 1 := IntWalk.i64_in _ (by omega)
  obtain ⟨h1, h2⟩ := hst w1 (Chg.refl _ _)
  have H1 := hd h1
  have H2 := hd (chg01 HC1.out h2)
  have HRR : Hid (RR (Pn.must x) en (t :: r) er a () r er a) := hd ⟨fun h9 => ⟨rfl, rfl⟩, fun h9 => by
   have : Pn.must x (t :: r) = .ok () r := by
    unfold Pn.must
    rw [if_pos hi]
    rfl
   rw [this]
   exact ⟨rfl, rfl, h9⟩⟩
  clear he hi ht hk hb hst h1 h2 k1
  go_wp2_with fail
  exact bodyPost_end (results_none rfl _ _ _) rfl ⟨rfl, r, er, a, HRR.out, H1.out, H2.out⟩
 | false =>
  go_wp2_with fail
  refine rfail_r HP1 (fun er' a' w2 HF HP2 HC2 => ?_)
  go_wp2_with fail
  refine bodyPost_end (results_none rfl _ _ _) rfl ⟨rfl, q, er', a', RR.fail HF.out (fun h0 => ?_) () q, HP2.out, chg01 HC1.out HC2.out⟩
  have hs := HB.out
  unfold seesB at hs
  unfold Pn.must
  rw [if_neg]
  intro h9
  simp [h0, h9] at hs
end Go.Proofs.YtocadlcglgpdcaaDoor
