/-
  Contracts of the disk's inner functions: place, at, set.
-/
import Derived.Test.YtpmkgedlnanjiaaGreatDoorDkRep
import Derived.StillTailTactics
import Derived.Laws.CopyOwn
import Derived.Lib.Hide
namespace Go.Proofs.YtpmkgedlnanjiaaGreatDoor
set_option linter.unusedVariables false
set_option maxRecDepth 100000
set_option linter.unusedSimpArgs false
open Go Go.RowKit

theorem place_ok (w : World) (p bs n : Nat) (s : Int) (hp : p < w.heap.size) (hn : n ≤ 4000) (h0 : w.cell? ⟨p, 0, none⟩ = some (.slice (some ⟨bs, 0, none⟩) (n*64) (n*64))) (hs0 : 0 ≤ s) (hs1 : s < n) :
    Calls Tryz.prog 65 #[.pointer (some ⟨p,0,none⟩), .int .i64 s] w fun e w' => e = .returned (.tuple #[.agg #[.int .i64 (s*64), .int .i64 ((s+1)*64)], .bool true]) ∧ Chg [] w w' := by
  go_enter Tryz.func65, Tryz.ntmps65
  go_wp2
  exact bodyPost_ret (v := .tuple #[.agg #[.int .i64 (s*64), .int .i64 ((s+1)*64)], .bool true]) (by simp [results, Tryz.results65, go_sem]) rfl ⟨rfl, (Chg.refl _ _).alloc _⟩
theorem place_bad (w : World) (p bs n : Nat) (s : Int) (hp : p < w.heap.size) (hn : n ≤ 4000) (h0 : w.cell? ⟨p, 0, none⟩ = some (.slice (some ⟨bs, 0, none⟩) (n*64) (n*64))) (hs : s < 0 ∨ n ≤ s) :
    Calls Tryz.prog 65 #[.pointer (some ⟨p,0,none⟩), .int .i64 s] w fun e w' => e = .returned (.tuple #[.agg #[.int .i64 0, .int .i64 0], .bool false]) ∧ Chg [] w w' := by
  rcases hs with hs | hs
  · go_enter Tryz.func65, Tryz.ntmps65
    go_wp2
    exact bodyPost_ret (v := .tuple #[.agg #[.int .i64 0, .int .i64 0], .bool false]) (by simp [results, Tryz.results65, go_sem]) rfl ⟨rfl, (Chg.refl _ _).alloc _⟩
  · go_enter Tryz.func65, Tryz.ntmps65
    go_wp2
    exact bodyPost_ret (v := .tuple #[.agg #[.int .i64 0, .int .i64 0], .bool false]) (by simp [results, Tryz.results65, go_sem]) rfl ⟨rfl, (Chg.refl _ _).alloc _⟩
theorem place_nil (w : World) (s : Int) :
    Calls Tryz.prog 65 #[.pointer none, .int .i64 s] w fun e w' => e = .returned (.tuple #[.agg #[.int .i64 0, .int .i64 0], .bool false]) ∧ Chg [] w w' := by
  go_enter Tryz.func65, Tryz.ntmps65
  go_wp2
  exact bodyPost_ret (v := .tuple #[.agg #[.int .i64 0, .int .i64 0], .bool false]) (by simp [results, Tryz.results65, go_sem]) rfl ⟨rfl, (Chg.refl _ _).alloc _⟩

theorem at_off (w : World) (p : Nat) (s : Int) (hp : p < w.heap.size) (h3 : w.cell? ⟨p, 3, none⟩ = some (.bool true)) :
    Calls Tryz.prog 67 #[.pointer (some ⟨p,0,none⟩), .int .i64 s] w fun e w' => e = .returned (.tuple #[.agg #[.int .i64 0, .int .i64 0], .int .i64 24]) ∧ Chg [] w w' := by
  go_enter Tryz.func67, Tryz.ntmps67
  go_wp2_with fail
  exact bodyPost_ret (v := .tuple #[.agg #[.int .i64 0, .int .i64 0], .int .i64 24]) (by simp [results, Tryz.results67, go_sem]) rfl ⟨rfl, (Chg.refl _ _).alloc _⟩
theorem at_cells {w w1 : World} (hc : Chg [] (w.alloc (Obj.cells #[Value.int IntKind.i64 0, Value.int IntKind.i64 0] 87)) w1) :
    w.heap.size < w1.heap.size ∧ w1.cell? ⟨w.heap.size, 0, none⟩ = some (.int .i64 0) ∧ w1.cell? ⟨w.heap.size, 1, none⟩ = some (.int .i64 0) ∧ (∀ i, w1.frozen? ⟨w.heap.size, i, none⟩ = false) ∧ Chg [] w w1 :=
  ⟨by have := hc.size; simp at this; omega, (hc.blk (Blk.new w [.int .i64 0, .int .i64 0] _) (by simp)).cell rfl, (hc.blk (Blk.new w [.int .i64 0, .int .i64 0] _) (by simp)).cell rfl,
    fun i => (hc.blk (Blk.new w [.int .i64 0, .int .i64 0] _) (by simp)).free i, ((Chg.refl [] w).alloc _).trans hc (by simp)⟩
theorem at_ok (w : World) (p bs n : Nat) (s : Int) (hp : p < w.heap.size) (hn : n ≤ 4000) (h0 : w.cell? ⟨p, 0, none⟩ = some (.slice (some ⟨bs, 0, none⟩) (n*64) (n*64))) (h3 : w.cell? ⟨p, 3, none⟩ = some (.bool false)) (hs0 : 0 ≤ s) (hs1 : s < n) :
    Calls Tryz.prog 67 #[.pointer (some ⟨p,0,none⟩), .int .i64 s] w fun e w' => e = .returned (.tuple #[.agg #[.int .i64 (s*64), .int .i64 ((s+1)*64)], .int .i64 0]) ∧ Chg [] w w' := by
  go_enter Tryz.func67, Tryz.ntmps67
  go_wp2_with fail
  refine (place_ok _ p bs n s (by simp; omega) hn (by rw [World.cell?_alloc_past _ _ _ hp]; exact h0) hs0 hs1).mono ?_
  rintro e w1 ⟨rfl, hc⟩
  obtain ⟨hsz, hc0, hc1, hf0, hC⟩ := at_cells hc
  go_wp2_with fail
  refine bodyPost_ret (v := .tuple #[.agg #[.int .i64 (s*64), .int .i64 ((s+1)*64)], .int .i64 0]) (by simp [results, Tryz.results67, go_sem, hsz, hc0, hc1]) rfl ⟨rfl, ?_⟩
  exact ((hC.setCell _ _ (.inr (Nat.le_refl _))).setCell _ _ (.inr (Nat.le_refl _))).alloc _
theorem at_bad (w : World) (p bs n : Nat) (s : Int) (hp : p < w.heap.size) (hn : n ≤ 4000) (h0 : w.cell? ⟨p, 0, none⟩ = some (.slice (some ⟨bs, 0, none⟩) (n*64) (n*64))) (h3 : w.cell? ⟨p, 3, none⟩ = some (.bool false)) (hs : s < 0 ∨ n ≤ s) :
    Calls Tryz.prog 67 #[.pointer (some ⟨p,0,none⟩), .int .i64 s] w fun e w' => e = .returned (.tuple #[.agg #[.int .i64 0, .int .i64 0], .int .i64 1]) ∧ Chg [] w w' := by
  go_enter Tryz.func67, Tryz.ntmps67
  go_wp2_with fail
  refine (place_bad _ p bs n s (by simp; omega) hn (by rw [World.cell?_alloc_past _ _ _ hp]; exact h0) hs).mono ?_
  rintro e w1 ⟨rfl, hc⟩
  obtain ⟨hsz, hc0, hc1, hf0, hC⟩ := at_cells hc
  go_wp2_with fail
  refine bodyPost_ret (v := .tuple #[.agg #[.int .i64 0, .int .i64 0], .int .i64 1]) (by simp [results, Tryz.results67, go_sem, hsz, hc0, hc1]) rfl ⟨rfl, ?_⟩
  exact ((hC.setCell _ _ (.inr (Nat.le_refl _))).setCell _ _ (.inr (Nat.le_refl _))).alloc _
theorem at_nil (w : World) (s : Int) :
    Calls Tryz.prog 67 #[.pointer none, .int .i64 s] w fun e w' => e = .returned (.tuple #[.agg #[.int .i64 0, .int .i64 0], .int .i64 1]) ∧ Chg [] w w' := by
  go_enter Tryz.func67, Tryz.ntmps67
  go_wp2_with fail
  refine (place_nil _ s).mono ?_
  rintro e w1 ⟨rfl, hc⟩
  obtain ⟨hsz, hc0, hc1, hf0, hC⟩ := at_cells hc
  go_wp2_with fail
  refine bodyPost_ret (v := .tuple #[.agg #[.int .i64 0, .int .i64 0], .int .i64 1]) (by simp [results, Tryz.results67, go_sem, hsz, hc0, hc1]) rfl ⟨rfl, ?_⟩
  exact ((hC.setCell _ _ (.inr (Nat.le_refl _))).setCell _ _ (.inr (Nat.le_refl _))).alloc _

theorem info_u8 : (Tryz.prog.info? 5).map (·.size) = some 1 := by kernel_rfl

theorem set_calls (w : World) (p bs be N lo hi : Nat) (S E : Bytes) (t : ByteArray) (hp : p < w.heap.size) (h0 : w.cell? ⟨p, 0, none⟩ = some (.slice (some ⟨bs, 0, none⟩) N N))
    (h1 : w.cell? ⟨p, 1, none⟩ = some (.slice (some ⟨be, 0, none⟩) N N)) (hN : N ≤ 1000000) (hpb : p ≠ bs) (hpe : p ≠ be) (hbe : bs ≠ be)
    (hS : Blk w bs (S.map B8) 5) (hE : Blk w be (E.map B8) 5) (hSl : S.length = N) (hEl : E.length = N) (hlo : lo < hi) (hhi : hi ≤ N) (ht : t.size ≤ hi - lo) :
    Calls Tryz.prog 62 #[.pointer (some ⟨p,0,none⟩), .agg #[.int .i64 lo, .int .i64 hi], .string t] w fun e w' => e = .returned (.tuple #[]) ∧ Chg [bs, be] w w' ∧
      Blk w' bs ((splice S lo t.data.toList).map B8) 5 ∧ Blk w' be ((splice E lo ((S.drop lo).take (hi - lo))).map B8) 5 := by
  go_enter Tryz.func62, Tryz.ntmps62
  go_wp2_with fail
  have hC : Chg [bs, be] w (w.alloc (Obj.cells #[Value.int IntKind.i64 lo, Value.int IntKind.i64 hi] 87)) := (Chg.refl _ _).alloc _
  have hb : Blk _ _ [.int .i64 lo, .int .i64 hi] 87 := Blk.new w [.int .i64 lo, .int .i64 hi] 87
  have h0 := (World.cell?_alloc_past (Obj.cells #[Value.int IntKind.i64 lo, Value.int IntKind.i64 hi] 87) p 0 hp).trans h0
  have h1 := (World.cell?_alloc_past (Obj.cells #[Value.int IntKind.i64 lo, Value.int IntKind.i64 hi] 87) p 1 hp).trans h1
  have hS1 := hS.alloc (Obj.cells #[Value.int IntKind.i64 lo, Value.int IntKind.i64 hi] 87)
  have hE1 := hE.alloc (Obj.cells #[Value.int IntKind.i64 lo, Value.int IntKind.i64 hi] 87)
  have hnb : bs ≠ w.heap.size ∧ be ≠ w.heap.size := by have := hS.lt; have := hE.lt; omega
  have hp1 : p < (w.alloc (Obj.cells #[Value.int IntKind.i64 lo, Value.int IntKind.i64 hi] 87)).heap.size := by simp; omega
  simp only [List.toArray] at hb
  generalize (w.alloc (Obj.cells #[Value.int IntKind.i64 lo, Value.int IntKind.i64 hi] 87)) = w1 at *
  generalize w.heap.size = nb at *
  have g0 := hb.cell (i := 0) rfl
  have g1 := hb.cell (i := 1) rfl
  have b1 : (lo : Int) ≤ hi := by omega
  have b2 : (hi : Int) ≤ N := by omega
  have b3 : ¬ N = lo := by omega
  refine wp_region_tail 18 (by kernel_rfl) (by kernel_rfl) (fun L hL => ?_)
  simp only [List.take_succ_cons, List.take_zero, List.drop_succ_cons, List.drop_zero] at hL ⊢
  repeat still_step
  refine wpStill_nil (hL _ ?_)
  clear hL L
  refine wpList_copy_blk rfl (.tmp 14) (.tmp 23) 56 56 rfl 5 Tryz.underlying56 info_u8 be lo (hi - lo) (N - lo) ⟨bs, lo, none⟩ (hi - lo) (N - lo) rfl rfl
    (w := w1.drew) hE1 (((S.drop lo).take (hi - lo)).map B8) ?_ ?_ ?_ (B8_one _) ?_
  · simp [hSl]; omega
  · intro j v hj
    have : w1.cell? ⟨bs, lo + j, none⟩ = some v := hS1.cell (by
      rw [List.getElem?_map, List.getElem?_take] at hj
      split at hj
      · rw [List.getElem?_drop] at hj; rw [List.getElem?_map]; exact hj
      · simp at hj)
    rw [addr_add]; exact this
  · simp [hSl, hEl]; omega
  intro w2 hE2 hc2
  have hS2 : Blk w2 bs (S.map B8) 5 := hc2.blk (w := w1.drew) hS1 (by simpa using hbe)
  have k0 : w2.cell? ⟨p, 0, none⟩ = _ := (World.cell?_of_block (hc2.block p hp1 (by simpa using hpe))).trans h0
  have kb : Blk w2 nb _ _ := hc2.blk (w := w1.drew) hb (by simp; exact fun e => hnb.2 e.symm)
  have k1 := kb.cell (i := 0) rfl
  have k2 := kb.cell (i := 1) rfl
  have hC2 : Chg [bs, be] w w2 := hC.drew.trans hc2 (by simp)
  clear hC hc2 h0 h1 g0 g1 hb hS1 hE1 hS hE hp1
  clear w1
  go_wp2_with fail
  refine wp_region_tail 10 (by kernel_rfl) (by kernel_rfl) (fun L hL => ?_)
  simp only [List.take_succ_cons, List.take_zero, List.drop_succ_cons, List.drop_zero] at hL ⊢
  repeat still_step
  refine wpStill_nil (hL _ ?_)
  clear hL L
  refine wpList_copy_str rfl (.tmp 33) (.tmp 34) 56 9 rfl 5 Tryz.underlying56 info_u8 bs lo (hi - lo) (N - lo) t rfl rfl
    (w := w2.drew) hS2 ht (by simp [hSl]; omega) ?_
  intro w3 hS3 hc3
  have hE3 := hc3.blk (w := w2.drew) hE2 (by simpa using fun e => hbe e.symm)
  have hC3 : Chg [bs, be] w w3 := hC2.drew.trans hc3 (by simp)
  go_wp2_with fail
  go_end0
  refine ⟨rfl, hC3, ?_, ?_⟩
  · simpa [splice] using hS3
  · simpa [splice] using hE3
end Go.Proofs.YtpmkgedlnanjiaaGreatDoor
