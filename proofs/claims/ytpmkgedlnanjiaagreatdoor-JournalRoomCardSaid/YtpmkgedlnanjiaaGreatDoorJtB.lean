/-
  The reference of the digest (layer 2): the joined text.
-/
import Derived.Test.YtpmkgedlnanjiaaGreatDoorJtA
import Derived.Lib.AppendStr
namespace Go.Proofs.YtpmkgedlnanjiaaGreatDoor
set_option linter.unusedVariables false
set_option linter.unusedSimpArgs false
set_option maxRecDepth 100000
open Go Go.RowKit Go.Shelf

theorem make_bytes0 (c : Nat) (hc : c ≤ 1000000000) (w : World) : (Instr.makeSlice 56 (.int .i64 0) (.int .i64 (c : Int))).run Tryz.prog w =
    .ok (.slice (some ⟨w.heap.size, 0, none⟩) 0 c) (w.alloc (.cells (madeCells #[.int .u8 0] c) 5)) := by
  obtain ⟨i0, hi, hz0, hz1, hz2⟩ := info_parts info_u8g
  have := run_make (P := Tryz.prog) w 56 5 i0 (.int .u8 0) Tryz.underlying56 hi hz0 .i64 .i64 0 (c : Int) (by omega) (by omega) (by rw [hz2]; omega) (by omega)
  rw [this, hz1, Int.toNat_natCast, Nat.mul_one]
  rfl
theorem joined_full (l : List Bytes) (k n : Nat) (hn : n = l.length) (h : k = n) : Dg.joined (l.take k) = Dg.joined l := by rw [h, hn, List.take_length]
theorem one_byte (w : World) (b : UInt8) : ∀ j u, [Value.int .u8 (b.toNat : Int)][j]? = some u → (w.alloc (.cells #[.int .u8 (b.toNat : Int)] 5)).cell? ((⟨w.heap.size, 0, none⟩ : Addr).add j) = some u := fun j u hj => by
  rw [addr_add, Nat.zero_add]
  exact (Blk.new w [Value.int .u8 (b.toNat : Int)] 5).cell hj
theorem run_row_string {P : Program} {w : World} {B : Nat} {e : TypeId} {v : Value} {l : Bytes} (h : w.ownsRow B e 1 v l.length (Lib.byteCells l)) : (Conv.bytesToString v).run P w = .ok (.string ⟨l.toArray⟩) w := by
  rcases h.2 with ⟨rfl, h0⟩ | ⟨g, cap, cur, rfl, _, hg, hle, _, _, ht⟩
  · have : l = [] := List.eq_nil_of_length_eq_zero h0
    subst this
    rfl
  · rw [Nat.mul_one] at ht
    exact run_bytes_of (cs := cur.toList) (e := e) (by simpa [Blk] using hg) rfl (fun j hj => by
      rw [Nat.zero_add, ← List.getElem?_take_of_lt hj, ht]
      rfl)
set_option maxHeartbeats 2000000 in
theorem joined_spec (w : World) (v : Value) (l : List Bytes) (HV : Hid (Strs w v l)) (hl : l.length ≤ 900) (HB : Hid (∀ x ∈ l, x.length ≤ 1000000)) :
    Calls Tryz.prog 44 #[v] w fun e w' => e = .returned (.string ⟨(Dg.joined l).toArray⟩) ∧ Chg [] w w' := by
  obtain ⟨ao, cap, rfl, _, hv⟩ := HV.out
  have HE := Lib.hid hv
  obtain ⟨n, hn⟩ : ∃ n, n = l.length := ⟨_, rfl⟩
  rw [← hn]
  have hn9 : n ≤ 900 := by omega
  have Hn := Lib.hid hn
  clear hv hn hl
  go_enter Tryz.func44, Tryz.ntmps44
  go_wp2_with fail
  go_loop [3, 4] (fun c i => ∃ k d : Nat, k ≤ n ∧ i = .int .i64 (k : Int) ∧ c = .int .i64 (d : Int) ∧ d ≤ k * 1000021) (fun _ i => n - (intOf i).toNat)
  case atStart => exact ⟨0, 0, Nat.zero_le _, rfl, rfl, by omega⟩
  case round =>
    obtain ⟨k, d, hk, rfl, rfl, hd⟩ := hrel
    by_cases hlt : k < n
    · obtain ⟨x, hx⟩ : ∃ x, l[k]? = some x := ⟨l[k]'(by rw [← Hn.out]; exact hlt), by simp⟩
      obtain ⟨g, off, rfl, c0⟩ := HE.out k x hx
      have hxl : x.length ≤ 1000000 := HB.out x (List.mem_of_getElem? hx)
      have hd9 : d ≤ 900 * 1000021 := Nat.le_trans hd (Nat.mul_le_mul_right _ (by omega))
      clear hx
      go_wp2_with fail
      go_round
      case rel => exact ⟨k + 1, d + (x.length + 21), by omega, by go_num, by go_num, by rw [Nat.succ_mul]; omega⟩
      case measure => simp [intOf]; omega
    · have hd9 : d ≤ 1000000000 := by
        have : k * 1000021 ≤ 900 * 1000021 := Nat.mul_le_mul_right _ (by omega)
        omega
      have hmk := make_bytes0 d hd9 w
      obtain ⟨Z, hZ⟩ : ∃ Z, Z = madeCells #[.int .u8 0] d := ⟨_, rfl⟩
      rw [← hZ] at hmk
      have hzs : Z.size = d := by rw [hZ]; exact size_madeCells _ _
      have hown0 : (w.alloc (.cells Z 5)).ownsRow w.heap.size 5 1 (.slice (some ⟨w.heap.size, 0, none⟩) 0 d) 0 [] :=
        ⟨rfl, .inr ⟨w.heap.size, d, Z, rfl, Nat.le_refl _, heap_alloc_new _ _, Nat.zero_le _, by unfold maxLen; omega, by omega, by simp⟩⟩
      have HOWN0 := Lib.hid hown0
      clear hZ hzs hown0 hd
      go_wp2_with fail
      have HC0 : Hid (Chg [] w (w.alloc (.cells Z 5))) := Lib.hid ((Chg.refl _ _).alloc _)
      obtain ⟨i0, hi, hz0, hz1, hz2⟩ := info_parts info_u8g
      clear hmk
      go_loopw [5, 6] (fun lv i wr => ∃ k : Nat, k ≤ n ∧ i = .int .i64 (k : Int) ∧ wr.ownsRow w.heap.size 5 1 lv (Dg.joined (l.take k)).length (Lib.byteCells (Dg.joined (l.take k))) ∧ Chg [] w wr) (fun _ i _ => n - (intOf i).toNat)
      case atStart => exact ⟨0, Nat.zero_le _, rfl, HOWN0.out, HC0.out⟩
      case round =>
        obtain ⟨k2, hk2, rfl, hrow, hch⟩ := hrel
        have HROW := Lib.hid hrow
        have HCH := Lib.hid hch
        have HJ : Hid ((Dg.joined (l.take k2)).length ≤ 900018000 + 1800) := Lib.hid (by
          have h1 := Dg.joined_len (l.take k2) (fun x hx => HB.out x (List.mem_of_mem_take hx))
          rw [List.length_take] at h1
          have := Hn.out
          omega)
        clear hrow hch HOWN0 HC0
        by_cases hlt2 : k2 < n
        · obtain ⟨x, hx⟩ : ∃ x, l[k2]? = some x := ⟨l[k2]'(by rw [← Hn.out]; exact hlt2), by simp⟩
          obtain ⟨g, off, rfl, c0⟩ := HE.out k2 x hx
          have lg := World.block_lt_of_cell? _ _ c0
          have C0 := Lib.hid c0
          have c1 := (World.cell?_of_block (HCH.out.block g lg (by simp))).trans c0
          have hxl : x.length ≤ 1000000 := HB.out x (List.mem_of_getElem? hx)
          have HX := Lib.hid (Dg.joined_snoc l k2 x hx)
          obtain ⟨it, hit⟩ : ∃ it, it = Lib.itoa (x.length : Int) := ⟨_, rfl⟩
          have hil : it.length ≤ 21 := by rw [hit]; exact Dg.itoa_len x hxl
          have HIT := Lib.hid hit
          obtain ⟨J, hJ⟩ : ∃ J, J = Dg.joined (l.take k2) := ⟨_, rfl⟩
          rw [← hJ] at HROW HJ HX
          have hJ9 := HJ.out
          clear hx hit c0 hJ
          go_wp2_with fail
          refine (decimal_spec _ x.length (by omega)).mono ?_
          rintro e w2 ⟨rfl, rfl⟩
          rw [← HIT.out]
          have z1 : (⟨it.toArray⟩ : ByteArray).size = it.length := by rw [Lib.size_eq]
          have z2 : (⟨x.toArray⟩ : ByteArray).size = x.length := by rw [Lib.size_eq]
          have s1 : J.length + (⟨it.toArray⟩ : ByteArray).size ≤ maxLen := by rw [z1]; unfold maxLen; omega
          have s2 : J.length + (⟨it.toArray⟩ : ByteArray).size ≤ 140737488355328 := by rw [z1]; omega
          have s3 : w.heap.size ≤ wr.heap.size := HCH.out.size
          have s4 : J.length + (⟨it.toArray⟩ : ByteArray).size + 1 ≤ maxLen := by rw [z1]; unfold maxLen; omega
          have s5 : (J.length + (⟨it.toArray⟩ : ByteArray).size + 1) * 1 ≤ 140737488355328 := by rw [z1]; omega
          have s7 : J.length + (⟨it.toArray⟩ : ByteArray).size + 1 + (⟨x.toArray⟩ : ByteArray).size ≤ maxLen := by rw [z1, z2]; unfold maxLen; omega
          have s8 : J.length + (⟨it.toArray⟩ : ByteArray).size + 1 + (⟨x.toArray⟩ : ByteArray).size ≤ 140737488355328 := by rw [z1, z2]; omega
          have HS := Lib.hid (And.intro s1 (And.intro s2 (And.intro s4 (And.intro s5 (And.intro s7 s8)))))
          have HZ := Lib.hid (And.intro z1 z2)
          clear z1 z2 s1 s2 s4 s5 s7 s8
          go_wp2_with (first
            | (at_builtin; refine Lib.wpList_append_own_string _ rfl (.tmp 29) (.tmp 35) 56 9 rfl w.heap.size 5 i0 Tryz.underlying56 Tryz.underlying9 hi hz0 hz1 hz2 u5 J.length (Lib.byteCells J) rfl HROW.out ⟨it.toArray⟩ rfl HS.out.1 HS.out.2.1 s3 ?_; intro v3 w3 hown3 hgrow3 _; have HC3 := Lib.hid (HCH.out.grown hgrow3 (fun k hk => .inr (own_ge HROW.out k hk))); have HR3 := Lib.hid hown3; clear hown3 hgrow3 s3; have s6 : w.heap.size ≤ (w3.alloc (.cells #[.int .u8 58] 5)).heap.size := Nat.le_trans HC3.out.size (by simp))
            | (at_builtin; refine wpList_append_own _ rfl (.tmp 37) (.tmp 38) 56 rfl w.heap.size 5 i0 (.int .u8 0) 1 1 Tryz.underlying56 hi hz0 hz1 hz2 rfl (by decide) v3 (J.length + (⟨it.toArray⟩ : ByteArray).size) _ rfl (row_keptB HR3.out ((Chg.refl _ _).alloc _)) ⟨w3.heap.size, 0, none⟩ 1 1 [.int .u8 58] rfl rfl (one_byte w3 58) (by intro u hu; simp at hu; rw [hu]; rfl) HS.out.2.2.1 HS.out.2.2.2.1 s6 ?_; intro v4 w4 hown4 hgrow4 _; have HC4 := Lib.hid ((HC3.out.alloc _).grown hgrow4 (fun k hk => .inr (own_ge HR3.out k hk))); have HR4 := Lib.hid hown4; clear hown4 hgrow4 s6; have c4 := (World.cell?_of_block (HC4.out.block g lg (by simp))).trans C0.out; have s9 : w.heap.size ≤ w4.heap.size := HC4.out.size)
            | (at_builtin; refine Lib.wpList_append_own_string _ rfl (.tmp 40) (.tmp 44) 56 9 rfl w.heap.size 5 i0 Tryz.underlying56 Tryz.underlying9 hi hz0 hz1 hz2 v4 (J.length + (⟨it.toArray⟩ : ByteArray).size + 1) _ rfl HR4.out ⟨x.toArray⟩ rfl HS.out.2.2.2.2.1 HS.out.2.2.2.2.2 s9 ?_; intro v5 w5 hown5 hgrow5 _; have HC5 := Lib.hid (HC4.out.grown hgrow5 (fun k hk => .inr (own_ge HR4.out k hk))); have HR5 := Lib.hid hown5; clear hown5 hgrow5 s9 c4))
          go_roundw
          case rel =>
            refine ⟨k2 + 1, by omega, by go_num, ?_, HC5.out⟩
            have h := HR5.out
            rw [HX.out, ← HIT.out]
            rw [Lib.strCells_eq, Lib.strCells_eq, show [Value.int .u8 58] = Lib.byteCells [58] from rfl, ← Lib.byteCells_append, ← Lib.byteCells_append, ← Lib.byteCells_append] at h
            have hlen : (J ++ (it ++ [58] ++ x)).length = J.length + (⟨it.toArray⟩ : ByteArray).size + 1 + (⟨x.toArray⟩ : ByteArray).size := by
              rw [HZ.out.1, HZ.out.2]; simp; omega
            rw [hlen]
            simpa using h
          case measure => simp [intOf]; omega
        · have hj := joined_full l k2 n Hn.out (by omega)
          rw [hj] at HROW
          obtain ⟨bo, n2, cap2, rfl⟩ : ∃ bo n2 cap2, u5 = .slice bo n2 cap2 := by
            rcases HROW.out.2 with ⟨h, _⟩ | ⟨g, cap, cur, h, _⟩
            · exact ⟨_, _, _, h⟩
            · exact ⟨_, _, _, h⟩
          have hcv : (convert 56 9 (.slice bo n2 cap2)).run Tryz.prog wr = .ok (.string ⟨(Dg.joined l).toArray⟩) wr := by
            rw [run_convert_bytes_string _ _ _ 5 _ _ _ Tryz.underlying56 Tryz.underlying5 Tryz.underlying9]
            exact run_row_string (P := Tryz.prog) HROW.out
          clear hj HJ
          go_wp2_with fail
          go_ret
          exact ⟨rfl, HCH.out⟩
end Go.Proofs.YtpmkgedlnanjiaaGreatDoor
