/-
  Contracts of the disk: New.
-/
import Derived.Test.YtpmkgedlnanjiaaGreatDoorDkRep
import Derived.Deep.DeepCutAuto
import Derived.RegionTactic
namespace Go.Proofs.YtpmkgedlnanjiaaGreatDoor
set_option linter.unusedVariables false
set_option maxRecDepth 100000
set_option linter.unusedSimpArgs false
open Go Go.RowKit

theorem new_bad (w : World) (s : Int) (hs : s < 1 ∨ 4000 < s) : Calls Tryz.prog 8 #[.int .i64 s] w fun e w' => e = .returned (.pointer none) ∧ w = w' := by
  rcases hs with hs | hs
  all_goals
    go_enter Tryz.func8, Tryz.ntmps8
    go_wp2_with fail
    go_ret
    exact ⟨rfl, rfl⟩

theorem info_byte : (Tryz.prog.info? 5).map (fun i => (i.zero, i.size, i.bytes)) = some (some (.int .u8 0), 1, 1) := by kernel_rfl

theorem make_bytes (n : Nat) (hn : n ≤ 1000000) (w : World) : (Instr.makeSlice 56 (.int .i64 (n : Int)) (.int .i64 (n : Int))).run Tryz.prog w =
    .ok (.slice (some ⟨w.heap.size, 0, none⟩) n n) (w.alloc (.cells ((List.replicate n (0 : UInt8)).map B8).toArray 5)) := by
  obtain ⟨i0, hi, hz0, hz1, hz2⟩ := info_parts info_byte
  have := run_make (P := Tryz.prog) w 56 5 i0 (.int .u8 0) Tryz.underlying56 hi hz0 .i64 .i64 (n : Int) (n : Int) (by omega) (Int.le_refl _) (by rw [hz2]; omega) (by omega)
  rw [this, hz1, Int.toNat_natCast, Nat.mul_one]
  congr 3
  have h := toList_madeCells_one (.int .u8 0) n
  rw [List.map_replicate, show B8 0 = Value.int .u8 0 from rfl, ← h]
  rfl

theorem new_secs (n : Nat) : (List.replicate (n * 64) (0 : UInt8)).length = n * 64 ∧ ∀ i, i < n → ((List.replicate (n * 64) (0 : UInt8)).drop (i * 64)).take 64 = List.replicate 64 0 := by
  refine ⟨by simp, fun i hi => ?_⟩
  rw [List.drop_replicate, List.take_replicate]
  congr 1
  omega

/-- A disk that was made in this very call. -/
def DkMade (w : World) (D : DK) (v : Value) (w' : World) : Prop := ∃ p own, v = .pointer (some ⟨p, 0, none⟩) ∧ DkAt w' own p D ∧ Chg [] w w' ∧ ∀ k ∈ own, w.heap.size ≤ k

theorem made_ok (w : World) (n bs be : Nat) (h1 : 1 ≤ n) (h2 : n ≤ 4000) (h : (bs = w.heap.size ∧ be = w.heap.size + 1) ∨ (bs = w.heap.size + 1 ∧ be = w.heap.size)) :
    DkMade w (DK.new n) (.pointer (some ⟨w.heap.size + 1 + 1, 0, none⟩)) (((w.alloc (.cells ((List.replicate (n * 64) (0 : UInt8)).map B8).toArray 5)).alloc (.cells ((List.replicate (n * 64) (0 : UInt8)).map B8).toArray 5)).alloc
      (.cells #[.slice (some ⟨bs, 0, none⟩) (n * 64) (n * 64), .slice (some ⟨be, 0, none⟩) (n * 64) (n * 64), .slice none 0 0, .bool false, .pointer none] 73)).drew := by
  obtain ⟨z1, z2⟩ := new_secs n
  have b0 := ((Blk.new w ((List.replicate (n * 64) (0 : UInt8)).map B8) 5).alloc (.cells ((List.replicate (n * 64) (0 : UInt8)).map B8).toArray 5)).alloc (.cells #[.slice (some ⟨bs, 0, none⟩) (n * 64) (n * 64), .slice (some ⟨be, 0, none⟩) (n * 64) (n * 64), .slice none 0 0, .bool false, .pointer none] 73)
  have b1 := (Blk.new (w.alloc (.cells ((List.replicate (n * 64) (0 : UInt8)).map B8).toArray 5)) ((List.replicate (n * 64) (0 : UInt8)).map B8) 5).alloc (.cells #[.slice (some ⟨bs, 0, none⟩) (n * 64) (n * 64), .slice (some ⟨be, 0, none⟩) (n * 64) (n * 64), .slice none 0 0, .bool false, .pointer none] 73)
  have b2 := Blk.new ((w.alloc (.cells ((List.replicate (n * 64) (0 : UInt8)).map B8).toArray 5)).alloc (.cells ((List.replicate (n * 64) (0 : UInt8)).map B8).toArray 5)) [.slice (some ⟨bs, 0, none⟩) (n * 64) (n * 64), .slice (some ⟨be, 0, none⟩) (n * 64) (n * 64), .slice none 0 0, .bool false, .pointer none] 73
  simp only [World.size_alloc] at b1 b2
  have s0 : Secs _ w.heap.size n _ := ⟨_, b0, z1, z2⟩
  have s1 : Secs _ (w.heap.size + 1) n _ := ⟨_, b1, z1, z2⟩
  have hc : Chg [] w (((w.alloc (.cells ((List.replicate (n * 64) (0 : UInt8)).map B8).toArray 5)).alloc (.cells ((List.replicate (n * 64) (0 : UInt8)).map B8).toArray 5)).alloc
      (.cells #[.slice (some ⟨bs, 0, none⟩) (n * 64) (n * 64), .slice (some ⟨be, 0, none⟩) (n * 64) (n * 64), .slice none 0 0, .bool false, .pointer none] 73)).drew := ((((Chg.refl _ _).alloc _).alloc _).alloc _).drew
  refine ⟨w.heap.size + 1 + 1, dkOwn (w.heap.size + 1 + 1) bs be (.slice none 0 0) (.pointer none), rfl, ⟨bs, be, _, _, ⟨b2, ?_, ?_, World.ownsRow_nil _ _ _ _, rfl, ?_, DK.new_ok n h1 h2⟩, rfl⟩, hc, ?_⟩
  · rcases h with ⟨rfl, rfl⟩ | ⟨rfl, rfl⟩
    · exact s0
    · exact s1
  · rcases h with ⟨rfl, rfl⟩ | ⟨rfl, rfl⟩
    · exact s1
    · exact s0
  · simp [dkOwn, avBlk, Value.ownBlock]; omega
  · intro k hk
    simp [dkOwn, avBlk, Value.ownBlock] at hk
    omega

theorem new_calls (w : World) (n : Nat) (h1 : 1 ≤ n) (h2 : n ≤ 4000) : Calls Tryz.prog 8 #[.int .i64 (n : Int)] w fun e w' => ∃ v, e = .returned v ∧ DkMade w (DK.new n) v w' := by
  have hmk := make_bytes (n * 64) (by omega)
  obtain ⟨Z, hZ⟩ : ∃ Z, Z = ((List.replicate (n * 64) (0 : UInt8)).map B8).toArray := ⟨_, rfl⟩
  rw [← hZ] at hmk
  have HZ := Lib.hid hZ
  clear hZ
  rw [show ((n * 64 : Nat) : Int) = (n : Int) * 64 by omega] at hmk
  have Hmk := Lib.hid hmk
  clear hmk
  go_enter Tryz.func8, Tryz.ntmps8
  go_upto_region 3 with fail
  go_cut [2] (fun s2 wx => DkMade w (DK.new n) s2 wx)
  case first =>
    have hmk := Hmk.out
    go_region
    all_goals
      go_wp2_with fail
      go_meet
      rw [HZ.out]
    · exact made_ok w n _ _ h1 h2 (.inl ⟨rfl, rfl⟩)
    · exact made_ok w n _ _ h1 h2 (.inr ⟨rfl, rfl⟩)
  case rest =>
    have HC := Lib.hid hcut
    clear hcut
    go_wp2_with fail
    go_ret
    exact ⟨_, rfl, HC.out⟩
end Go.Proofs.YtpmkgedlnanjiaaGreatDoor
