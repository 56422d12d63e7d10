/-
  Contracts of the disk: Rot, Stale.
-/
import Derived.Test.YtpmkgedlnanjiaaGreatDoorDkD
import Derived.Deep.DeepCutAuto
namespace Go.Proofs.YtpmkgedlnanjiaaGreatDoor
set_option linter.unusedVariables false
set_option maxRecDepth 100000
set_option linter.unusedSimpArgs false
open Go Go.RowKit

theorem rot_nil (w : World) (s a m : Int) : Calls Tryz.prog 26 #[.pointer none, .int .i64 s, .int .i64 a, .int .i64 m] w fun e w' => e = .returned (.tuple #[]) ∧ Chg [] w w' := by
  go_enter Tryz.func26, Tryz.ntmps26
  go_wp2_with fail
  refine (place_nil w s).mono ?_
  rintro e w1 ⟨rfl, hc⟩
  go_wp2_with fail
  refine bodyPost_end (results_none rfl _ _ _) rfl ⟨rfl, hc.alloc _⟩
theorem rot_bad (w : World) (p bs n : Nat) (s a m : Int) (hp : p < w.heap.size) (hn : n ≤ 4000) (h0 : w.cell? ⟨p, 0, none⟩ = some (.slice (some ⟨bs, 0, none⟩) (n*64) (n*64))) (hs : s < 0 ∨ n ≤ s) :
    Calls Tryz.prog 26 #[.pointer (some ⟨p, 0, none⟩), .int .i64 s, .int .i64 a, .int .i64 m] w fun e w' => e = .returned (.tuple #[]) ∧ Chg [] w w' := by
  go_enter Tryz.func26, Tryz.ntmps26
  go_wp2_with fail
  refine (place_bad w p bs n s hp hn h0 hs).mono ?_
  rintro e w1 ⟨rfl, hc⟩
  go_wp2_with fail
  refine bodyPost_end (results_none rfl _ _ _) rfl ⟨rfl, hc.alloc _⟩
theorem rot_not (w : World) (p bs n : Nat) (s a m : Int) (hp : p < w.heap.size) (hn : n ≤ 4000) (h0 : w.cell? ⟨p, 0, none⟩ = some (.slice (some ⟨bs, 0, none⟩) (n*64) (n*64))) (hs0 : 0 ≤ s) (hs1 : s < n)
    (hb : a < 0 ∨ (0 ≤ a ∧ 64 ≤ a) ∨ (0 ≤ a ∧ a < 64 ∧ m ≤ 0) ∨ (0 ≤ a ∧ a < 64 ∧ 0 < m ∧ 256 ≤ m)) :
    Calls Tryz.prog 26 #[.pointer (some ⟨p, 0, none⟩), .int .i64 s, .int .i64 a, .int .i64 m] w fun e w' => e = .returned (.tuple #[]) ∧ Chg [] w w' := by
  rcases hb with h1 | ⟨h1, h2⟩ | ⟨h1, h2, h3⟩ | ⟨h1, h2, h3, h4⟩
  all_goals
    go_enter Tryz.func26, Tryz.ntmps26
    go_wp2_with fail
    refine (place_ok w p bs n s hp hn h0 hs0 hs1).mono ?_
    rintro e w1 ⟨rfl, hc⟩
    go_wp2_with fail
    refine bodyPost_end (results_none rfl _ _ _) rfl ⟨rfl, hc.alloc _⟩
set_option maxRecDepth 100000 in
theorem rot_calls (w : World) (p bs n : Nat) (s a m : Nat) (x : UInt8) (hp : p < w.heap.size) (hbs : bs < w.heap.size) (hn : n ≤ 4000) (h0 : w.cell? ⟨p, 0, none⟩ = some (.slice (some ⟨bs, 0, none⟩) (n*64) (n*64))) (hs1 : s < n)
    (ha : a < 64) (hm0 : 0 < m) (hm : m < 256) (Hx : Hid (w.cell? ⟨bs, s * 64 + a, none⟩ = some (.int .u8 x.toNat))) (Hf : Hid (w.frozen? ⟨bs, s * 64 + a, none⟩ = false)) :
    Calls Tryz.prog 26 #[.pointer (some ⟨p, 0, none⟩), .int .i64 s, .int .i64 a, .int .i64 m] w fun e w' => e = .returned (.tuple #[]) ∧ ∃ w1, Chg [] w w1 ∧ w' = w1.setCell ⟨bs, s * 64 + a, none⟩ (B8 (x ^^^ UInt8.ofNat m)) := by
  go_enter Tryz.func26, Tryz.ntmps26
  go_wp2_with fail
  refine (place_ok w p bs n s hp hn h0 (by omega) (by omega)).mono ?_
  rintro e w1 ⟨rfl, hc⟩
  go_upto_region 2 with fail
  obtain ⟨w2, hw2⟩ : ∃ w2, w2 = w1.alloc (.cells #[.int .i64 ((s : Int) * 64), .int .i64 (((s : Int) + 1) * 64)] 87) := ⟨_, rfl⟩
  rw [← hw2]
  have hc2 : Chg [] w w2 := by rw [hw2]; exact hc.alloc _
  have hb : Blk w2 w1.heap.size [.int .i64 ((s : Int) * 64), .int .i64 (((s : Int) + 1) * 64)] 87 := by rw [hw2]; exact Blk.new w1 [.int .i64 ((s : Int) * 64), .int .i64 (((s : Int) + 1) * 64)] _
  generalize w1.heap.size = tb at *
  have k0 := (World.cell?_of_block (hc2.block p hp (by simp))).trans h0
  have kx := (World.cell?_of_block (hc2.block bs hbs (by simp))).trans Hx.out
  have kf := (World.frozen?_of_block (hc2.block bs hbs (by simp))).trans Hf.out
  have b0 := hb.cell (i := 0) rfl
  have b1 := hb.cell (i := 1) rfl
  have HC2 := Lib.hid hc2
  clear hc2 hw2 hc h0 hp hb Hx Hf
  clear w1
  have i1 : IntKind.i64.wrap ((s : Int) * 64 + a) = (s : Int) * 64 + a := IntWalk.i64_in _ (by omega)
  have i2 : 0 ≤ (s : Int) * 64 + a := by omega
  have i3 : ((s : Int) * 64 + a).toNat = s * 64 + a := by omega
  have i4 : (s : Int) * 64 + a < n * 64 := by omega
  refine wp_region_tail 13 (by kernel_rfl) (by kernel_rfl) (fun L hL => ?_)
  simp only [List.take_succ_cons, List.take_zero, List.drop_succ_cons, List.drop_zero] at hL ⊢
  repeat still_step
  refine wpStill_nil (hL _ ?_)
  clear hL L
  go_wp2_with fail
  refine bodyPost_end (results_none rfl _ _ _) rfl ⟨rfl, w2.drew, HC2.out.drew, ?_⟩
  rw [World.setCell_drew]
  congr 2
  unfold B8
  rw [u8_xor_nat _ _ x.toNat_lt hm, UInt8.toNat_xor, UInt8.toNat_ofNat']
  rw [show m % 2 ^ 8 = m from Nat.mod_eq_of_lt hm]

theorem sec_set (S : Bytes) (n s i a : Nat) (x : UInt8) (hS : S.length = n * 64) (ha : a < 64) :
    ((S.set (s * 64 + a) x).drop (i * 64)).take 64 = if i = s then ((S.drop (i * 64)).take 64).set a x else (S.drop (i * 64)).take 64 := by
  apply List.ext_getElem?
  intro k
  rw [List.getElem?_take, List.getElem?_drop, List.getElem?_set]
  by_cases his : i = s
  · subst his
    rw [if_pos rfl, List.getElem?_set, List.getElem?_take, List.getElem?_drop, List.length_take, List.length_drop]
    by_cases hk : k < 64
    · by_cases hka : a = k
      · subst hka
        rw [if_pos hk, if_pos rfl, if_pos rfl]
        by_cases h3 : i * 64 + a < S.length
        · rw [if_pos h3, if_pos (by omega)]
        · rw [if_neg h3, if_neg (by omega)]
      · rw [if_pos hk, if_neg (by omega), if_neg hka, if_pos hk]
    · rw [if_neg hk, if_neg (by omega), if_neg hk]
  · rw [if_neg his, List.getElem?_take, List.getElem?_drop]
    by_cases hk : k < 64
    · rw [if_pos hk, if_pos hk, if_neg (by omega)]
    · rw [if_neg hk, if_neg hk]

theorem rot_spec {w : World} {own : List Nat} {p : Nat} {D : DK} (h : DkAt w own p D) (s a m : Int) :
    Calls Tryz.prog 26 #[.pointer (some ⟨p, 0, none⟩), .int .i64 s, .int .i64 a, .int .i64 m] w fun e w' => e = .returned (.tuple #[]) ∧ DkTo w own p (D.rot s a m) w' := by
  have hA := h
  obtain ⟨bs, be, qv, av, h, rfl⟩ := h
  have h0 := h.hp.cell (i := 0) rfl
  have hp := h.hp.lt
  have n2 := h.ok.n2
  have key : ∀ e w', (e = Ending.returned (.tuple #[]) ∧ Chg [] w w') → e = Ending.returned (.tuple #[]) ∧ DkTo w (dkOwn p bs be qv av) p D w' := by
    rintro e w' ⟨rfl, hc⟩
    exact ⟨rfl, hA.to hc⟩
  by_cases hv : D.valid s = true
  · have hv' := hv
    simp only [DK.valid, decide_eq_true_eq] at hv'
    by_cases hr : 0 ≤ a ∧ a < 64 ∧ 0 < m ∧ m < 256
    · have ok := DK.rot_ok h.ok s a m
      obtain ⟨a0, a1, m0, m1⟩ := hr
      obtain ⟨k, rfl⟩ := Int.eq_ofNat_of_zero_le hv'.1
      obtain ⟨j, rfl⟩ := Int.eq_ofNat_of_zero_le a0
      obtain ⟨u, rfl⟩ := Int.eq_ofNat_of_zero_le (show 0 ≤ m by omega)
      have er : D.rot (k : Int) (j : Int) (u : Int) = { D with st := fun i => if i = k then DK.flip (D.st i) j (UInt8.ofNat u) else D.st i } := by
        unfold DK.rot DK.rotOk
        rw [hv, if_pos (by simp; omega)]
        rfl
      rw [er] at ok ⊢
      obtain ⟨S, hS, hSl, hSs⟩ := h.hs
      obtain ⟨d1, d2, d3, d4, d5, d6⟩ := h.nds
      have hlt : k * 64 + j < S.length := by omega
      have hx : S[k * 64 + j]? = some (S[k * 64 + j]'hlt) := by simp
      refine (rot_calls w p bs D.n k j u (S[k * 64 + j]'hlt) hp hS.lt n2 h0 (by omega) (by omega) (by omega) (by omega) (Lib.hid (hS.cell (by rw [List.getElem?_map, hx]; rfl))) (Lib.hid (hS.free _))).mono ?_
      rintro e w' ⟨rfl, w1, hc, rfl⟩
      have h1 := h.kept hc (by simp)
      have hS1 := hc.blk hS (by simp)
      have hc1 : Chg [bs] w1 (w1.setCell ⟨bs, k * 64 + j, none⟩ (B8 ((S[k * 64 + j]'hlt) ^^^ UInt8.ofNat u))) := (Chg.refl _ _).setCell _ _ (.inl (by simp))
      refine ⟨rfl, _, ⟨bs, be, qv, av, ⟨hc1.blk h1.hp (by simpa using d1), ⟨S.set (k * 64 + j) ((S[k * 64 + j]'hlt) ^^^ UInt8.ofNat u), ?_, by simpa using hSl, ?_⟩, h1.he.kept hc1 (by simpa using fun e => d3 e.symm), row_kept h1.hq hc1 (fun k hk => by have := d4 k hk; simp; omega),
        h1.ha.kept hc1 (fun k hk => by have := d5 k hk; simp; omega), h.nd, ok⟩, rfl⟩, (hc.mono (by simp)).trans hc1 (fun x hx => by simp at hx; subst hx; exact .inl (mem_dkOwn.2 (by simp))), fun x hx => .inl hx⟩
      · rw [List.map_set]; exact hS1.set _ _
      · intro i hi
        rw [sec_set S D.n k i j _ hSl (by omega)]
        by_cases hik : i = k
        · subst hik
          rw [if_pos rfl]
          show _ = (if i = i then DK.flip (D.st i) j (UInt8.ofNat u) else D.st i)
          rw [if_pos rfl, hSs i hi]
          unfold DK.flip
          congr 2
          have e1 : (D.st i)[j]? = some (S[i * 64 + j]'hlt) := by
            rw [← hSs i hi, List.getElem?_take, if_pos (by omega), List.getElem?_drop]; exact hx
          rw [List.getD_eq_getElem?_getD, e1]
          rfl
        · rw [if_neg hik]
          show _ = (if i = k then DK.flip (D.st i) j (UInt8.ofNat u) else D.st i)
          rw [if_neg hik]
          exact hSs i hi
    · rw [show D.rot s a m = D from by unfold DK.rot DK.rotOk; rw [decide_eq_false hr]; simp]
      refine (rot_not w p bs D.n s a m hp n2 h0 hv'.1 hv'.2 ?_).mono key
      omega
  · have hv' : D.valid s = false := by simpa using hv
    rw [show D.rot s a m = D from by simp [DK.rot, DK.rotOk, hv']]
    refine (rot_bad w p bs D.n s a m hp n2 h0 ?_).mono key
    simp only [DK.valid, decide_eq_false_iff_not] at hv'
    omega
end Go.Proofs.YtpmkgedlnanjiaaGreatDoor
