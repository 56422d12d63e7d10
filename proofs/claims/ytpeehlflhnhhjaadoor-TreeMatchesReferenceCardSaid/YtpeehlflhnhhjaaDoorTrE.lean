/-
  Layer 4: slices.Chunk as an iterator that hands over; strings made by make.
-/
import Derived.Test.YtpeehlflhnhhjaaDoorTrD
namespace Go.Proofs.YtpeehlflhnhhjaaDoor
set_option linter.unusedVariables false
set_option linter.unusedSimpArgs false
open Go Go.RowKit Go.Shelf

theorem chunk_hands (n : Nat) (hn : 1 ≤ n) (Bs Bn g off len cap : Nat) (hlen : len ≤ 1000000) (hcap : len ≤ cap) (w : World) (hBs : w.cell? ⟨Bs, 0, none⟩ = some (.slice (some ⟨g, off, none⟩) len cap)) (hBn : w.cell? ⟨Bn, 0, none⟩ = some (.int .i64 2)) :
    Hands Tryd.prog n 43 #[.pointer (some ⟨Bs, 0, none⟩), .pointer (some ⟨Bn, 0, none⟩)] (chunk g off len cap) (fun k _ => 2 * k < len) (fun A B => B.heap[Bs]? = A.heap[Bs]? ∧ B.heap[Bn]? = A.heap[Bn]?) (fun xs => xs = List.range ((len + 1) / 2)) len w := by
  intro l J W hW hJ _ hY h0
  have h1 := (World.cell?_of_block (a := ⟨Bs, 0, none⟩) (hW.block Bs (World.block_lt_of_cell? _ _ hBs))).trans hBs
  have h2 := (World.cell?_of_block (a := ⟨Bn, 0, none⟩) (hW.block Bn (World.block_lt_of_cell? _ _ hBn))).trans hBn
  refine (chunk1_in n hn l Bs Bn g off len cap hlen hcap J (fun _ _ => False) (fun pre W h => hJ _ _ _ h ⟨rfl, rfl, rfl, Nat.le_refl _, fun _ _ _ => rfl⟩) (fun pre k W h hk hpl => ?_) W h1 h2 h0).mono ?_
  · obtain ⟨fn, tmps, assign, body, hy, hR⟩ := hY pre k W h hk hpl
    exact ⟨fn, tmps, assign, body, hy, hR.mono fun e w' h => .inl ⟨h.1, h.2.1, h.2.2.1⟩⟩
  · rintro e w' ⟨hv, ⟨ys, h, hj⟩ | ⟨pre, _, h⟩⟩
    · exact ⟨hv, ys, h, hj⟩
    · exact h.elim
theorem chunk_spec (w : World) (ao : Option Addr) (m cap : Nat) :
    Calls Tryd.prog 35 #[.slice ao m cap, .int .i64 2] w fun e w' => e = .returned (.func (.func 43) #[] #[.pointer (some ⟨w.heap.size, 0, none⟩), .pointer (some ⟨w.heap.size + 1, 0, none⟩)]) ∧
      w' = (w.alloc (.cells #[.slice ao m cap] 22)).alloc (.cells #[.int .i64 2] 3) := by
  go_enter Tryd.func35, Tryd.ntmps35
  go_wp2_with fail
  go_ret
  exact ⟨rfl, rfl⟩
theorem levels_spec (w : World) (ao : Option Addr) (m cap : Nat) :
    Calls Tryd.prog 22 #[.slice ao m cap] w fun e w' => e = .returned (.func (.func 34) #[] #[.pointer (some ⟨w.heap.size, 0, none⟩)]) ∧ w' = w.alloc (.cells #[.slice ao m cap] 22) := by
  go_enter Tryd.func22, Tryd.ntmps22
  go_wp2_with fail
  go_ret
  exact ⟨rfl, rfl⟩
theorem info_str : (Tryd.prog.info? 9).map (fun i => (i.zero, i.size, i.bytes)) = some (some (.string ⟨#[]⟩), 1, 16) := by kernel_rfl
theorem make_strs (n : Nat) (hn : n ≤ 1000000) (w : World) : (Instr.makeSlice 22 (.int .i64 (n : Int)) (.int .i64 (n : Int))).run Tryd.prog w =
    .ok (.slice (some ⟨w.heap.size, 0, none⟩) n n) (w.alloc (.cells ((List.replicate n ([] : Bytes)).map vstr).toArray 9)) := by
  obtain ⟨i0, hi, hz0, hz1, hz2⟩ := info_parts info_str
  have := run_make (P := Tryd.prog) w 22 9 i0 (.string ⟨#[]⟩) Tryd.underlying22 hi hz0 .i64 .i64 (n : Int) (n : Int) (by omega) (Int.le_refl _) (by rw [hz2]; omega) (by omega)
  rw [this, hz1, Int.toNat_natCast, Nat.mul_one]
  congr 3
  have h := toList_madeCells_one (.string ⟨#[]⟩) n
  rw [List.map_replicate, show vstr [] = Value.string ⟨#[]⟩ from rfl, ← h]
  rfl
end Go.Proofs.YtpeehlflhnhhjaaDoor
