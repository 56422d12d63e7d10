/-
  JtA, JtB, JtC, JtD in one text.
-/
import Derived.Test.YtpmkgedlnanjiaaGreatDoorJrA
import Derived.Lib.AppendStr
namespace Go.Proofs.YtpmkgedlnanjiaaGreatDoor
set_option linter.unusedVariables false
set_option linter.unusedSimpArgs false
set_option maxRecDepth 100000
open Go Go.RowKit Go.Shelf

namespace Dg
def mx (x : Nat) : Nat :=
  let y := mix (mix x 4294967296 11400714819323198485) 536870912 13787848793156543929
  y ^^^ (y / 4294967296)
theorem take_mx (s b : Nat) : take s b = mx (s ^^^ b) := rfl
theorem mx_lt (x : Nat) : mx x < 18446744073709551616 := xor_lt (mix_lt _ _ _) (half_lt _ (mix_lt _ _ _))
end Dg
theorem mix_spec (w : World) (x0 : Nat) (hx0 : x0 < 18446744073709551616) :
    Calls Tryz.prog 115 #[.int .u64 (x0 : Int)] w fun e w' => e = .returned (.int .u64 (Dg.mx x0 : Nat)) ∧ w = w' := by
  obtain ⟨T, hT⟩ : ∃ T, T = Dg.mx x0 := ⟨_, rfl⟩
  have HT := Lib.hid hT
  rw [← hT]
  unfold Dg.mx at hT
  have e0 := xor_shr32 x0 hx0
  obtain ⟨x1, hx1⟩ : ∃ x1, x1 = x0 ^^^ (x0 / 4294967296) := ⟨_, rfl⟩
  rw [← hx1] at e0
  have hl1 : x1 < 18446744073709551616 := by rw [hx1]; exact Dg.xor_lt hx0 (Dg.half_lt _ hx0)
  obtain ⟨x2, hx2⟩ : ∃ x2, x2 = x1 * 11400714819323198485 % 18446744073709551616 := ⟨_, rfl⟩
  have hl2 : x2 < 18446744073709551616 := by rw [hx2]; exact Nat.mod_lt _ (by decide)
  have e1 : IntKind.u64.wrap ((x1 : Int) * 11400714819323198485) = (x2 : Int) := by
    rw [hx2]; show ((x1 : Int) * 11400714819323198485) % 18446744073709551616 = _; omega
  have e2 := xor_shr29 x2 hl2
  obtain ⟨x3, hx3⟩ : ∃ x3, x3 = x2 ^^^ (x2 / 536870912) := ⟨_, rfl⟩
  rw [← hx3] at e2
  have hl3 : x3 < 18446744073709551616 := by rw [hx3]; exact Dg.xor_lt hl2 (Dg.half_lt _ hl2)
  obtain ⟨x4, hx4⟩ : ∃ x4, x4 = x3 * 13787848793156543929 % 18446744073709551616 := ⟨_, rfl⟩
  have hl4 : x4 < 18446744073709551616 := by rw [hx4]; exact Nat.mod_lt _ (by decide)
  have e3 : IntKind.u64.wrap ((x3 : Int) * 13787848793156543929) = (x4 : Int) := by
    rw [hx4]; show ((x3 : Int) * 13787848793156543929) % 18446744073709551616 = _; omega
  have e4 := xor_shr32 x4 hl4
  have hTT : T = x4 ^^^ (x4 / 4294967296) := by
    rw [hT, hx4, hx3, hx2, hx1]
    rfl
  rw [← hTT] at e4
  clear hT hx1 hx2 hx3 hx4 hTT hl1 hl2 hl3 hl4 hx0
  go_enter Tryz.func115, Tryz.ntmps115
  go_wp2_with fail
  go_ret
  exact ⟨rfl, rfl⟩
theorem dec_go (n : Nat) (h : ¬ n < 10) : Lib.decDigits n = Lib.decDigits (n / 10) ++ [UInt8.ofNat (48 + n % 10)] := by rw [Lib.decDigits, dif_neg h]
theorem dig_str : ∀ d : Nat, d < 10 → (⟨#[48, 49, 50, 51, 52, 53, 54, 55, 56, 57]⟩ : ByteArray).extract d (d + 1) = ⟨[UInt8.ofNat (48 + d)].toArray⟩ := by decide
theorem join2 (a x : Bytes) : (⟨a.toArray⟩ : ByteArray) ++ ⟨x.toArray⟩ = ⟨(a ++ x).toArray⟩ := by
  apply ByteArray.ext
  apply Array.ext'
  simp
theorem dec_len (n : Nat) (hn : n ≤ 9223372036854775807) : (Lib.decDigits n).length ≤ 21 := by
  have := Lib.itoa_length_le (n : Int) (by omega) (by omega)
  rwa [Lib.itoa_nonneg] at this
theorem digits_spec (w : World) (n : Nat) (hn : n ≤ 9223372036854775807) :
    Calls Tryz.prog 100 #[.int .u64 (n : Int)] w fun e w' => e = .returned (.string ⟨(Lib.decDigits n).toArray⟩) ∧ w = w' := by
  have hd := dig_str (n % 10) (Nat.mod_lt _ (by decide))
  have hn0 : (0 : Int) ≤ (n : Int) := by omega
  have HLEN := Lib.hid (dec_len n hn)
  go_enter Tryz.func100, Tryz.ntmps100
  go_wp2_with fail
  have HD := Lib.hid hd
  clear hd
  go_loop [0, 3] (fun a b => ∃ (r : Nat) (tl : Bytes), a = .int .u64 (r : Int) ∧ b = .string ⟨tl.toArray⟩ ∧ r ≤ 9223372036854775807 ∧ Lib.decDigits n = (if r = 0 then [] else Lib.decDigits r) ++ tl) (fun a _ => (intOf a).toNat)
  case atStart =>
    refine ⟨n / 10, _, by simp, by rw [HD.out], by omega, ?_⟩
    by_cases h : n < 10
    · rw [if_pos (by omega), Lib.decDigits_one h, show n % 10 = n by omega]
      rfl
    · rw [if_neg (by omega)]
      exact dec_go n h
  case round =>
    obtain ⟨r, tl, rfl, rfl, hr, hrel⟩ := hrel
    have HR := Lib.hid hrel
    have htl : tl.length ≤ 21 := by
      have := HLEN.out
      rw [hrel, List.length_append] at this
      omega
    clear hrel
    have hr0 : (0 : Int) ≤ (r : Int) := by omega
    by_cases h0 : 0 < r
    · have hd2 := dig_str (r % 10) (Nat.mod_lt _ (by decide))
      have hsz : ¬ 9223372036854775807 < 1 + tl.length := by omega
      go_wp2_with fail
      go_round
      case rel =>
        refine ⟨r / 10, [UInt8.ofNat (48 + r % 10)] ++ tl, by simp, by rw [← join2]; simp, by omega, ?_⟩
        rw [HR.out, if_neg (by omega), ← List.append_assoc]
        congr 1
        by_cases h : r < 10
        · rw [if_pos (by omega), Lib.decDigits_one h, show r % 10 = r by omega]
          rfl
        · rw [if_neg (by omega)]
          exact dec_go r h
      case measure => simp [intOf]; omega
    · have hr00 : r = 0 := by omega
      rw [if_pos hr00, List.nil_append] at HR
      clear hr00
      go_wp2_with fail
      go_ret
      exact ⟨by rw [HR.out]; rfl, rfl⟩
theorem decimal_spec (w : World) (n : Nat) (hn : n ≤ 9223372036854775807) :
    Calls Tryz.prog 78 #[.int .i64 (n : Int)] w fun e w' => e = .returned (.string ⟨(Lib.itoa (n : Int)).toArray⟩) ∧ w = w' := by
  have hn0 : (0 : Int) ≤ (n : Int) := by omega
  rw [Lib.itoa_nonneg]
  go_enter Tryz.func78, Tryz.ntmps78
  go_wp2_with fail
  refine (digits_spec _ n hn).mono ?_
  rintro e w2 ⟨rfl, rfl⟩
  go_wp2_with fail
  go_ret
  exact ⟨rfl, rfl⟩
end Go.Proofs.YtpmkgedlnanjiaaGreatDoor
namespace Go.Proofs.YtpmkgedlnanjiaaGreatDoor
set_option linter.unusedVariables false
set_option linter.unusedSimpArgs false
set_option maxRecDepth 100000
open Go Go.RowKit Go.Shelf

theorem make_bytes0 (c : Nat) (hc : c ≤ 1000000000) (w : World) : (Instr.makeSlice 56 (.int .i64 0) (.int .i64 (c : Int))).run Tryz.prog w =
    .ok (.slice (some ⟨w.heap.size, 0, none⟩) 0 c) (w.alloc (.cells (madeCells #[.int .u8 0] c) 5)) := by
  obtain ⟨i0, hi, hz0, hz1, hz2⟩ := info_parts info_u8g
  have := run_make (P := Tryz.prog) w 56 5 i0 (.int .u8 0) Tryz.underlying56 hi hz0 .i64 .i64 0 (c : Int) (by omega) (by omega) (by rw [hz2]; omega) (by omega)
  rw [this, hz1, Int.toNat_natCast, Nat.mul_one]
  rfl
theorem joined_full (l : List Bytes) (k n : Nat) (hn : n = l.length) (h : k = n) : Dg.joined (l.take k) = Dg.joined l := by rw [h, hn, List.take_length]
theorem one_byte (w : World) (b : UInt8) : ∀ j u, [Value.int .u8 (b.toNat : Int)][j]? = some u → (w.alloc (.cells #[.int .u8 (b.toNat : Int)] 5)).cell? ((⟨w.heap.size, 0, none⟩ : Addr).add j) = some u := fun j u hj => by
  rw [addr_add, Nat.zero_add]
  exact (Blk.new w [Value.int .u8 (b.toNat : Int)] 5).cell hj
theorem run_row_string {P : Program} {w : World} {B : Nat} {e : TypeId} {v : Value} {l : Bytes} (h : w.ownsRow B e 1 v l.length (Lib.byteCells l)) : (Conv.bytesToString v).run P w = .ok (.string ⟨l.toArray⟩) w := by
  rcases h.2 with ⟨rfl, h0⟩ | ⟨g, cap, cur, rfl, _, hg, hle, _, _, ht⟩
  · have : l = [] := List.eq_nil_of_length_eq_zero h0
    subst this
    rfl
  · rw [Nat.mul_one] at ht
    exact run_bytes_of (cs := cur.toList) (e := e) (by simpa [Blk] using hg) rfl (fun j hj => by
      rw [Nat.zero_add, ← List.getElem?_take_of_lt hj, ht]
      rfl)
set_option maxHeartbeats 2000000 in
theorem joined_spec (w : World) (v : Value) (l : List Bytes) (HV : Hid (Strs w v l)) (hl : l.length ≤ 900) (HB : Hid (∀ x ∈ l, x.length ≤ 1000000)) :
    Calls Tryz.prog 44 #[v] w fun e w' => e = .returned (.string ⟨(Dg.joined l).toArray⟩) ∧ Chg [] w w' := by
  obtain ⟨ao, cap, rfl, _, hv⟩ := HV.out
  have HE := Lib.hid hv
  obtain ⟨n, hn⟩ : ∃ n, n = l.length := ⟨_, rfl⟩
  rw [← hn]
  have hn9 : n ≤ 900 := by omega
  have Hn := Lib.hid hn
  clear hv hn hl
  go_enter Tryz.func44, Tryz.ntmps44
  go_wp2_with fail
  go_loop [3, 4] (fun c i => ∃ k d : Nat, k ≤ n ∧ i = .int .i64 (k : Int) ∧ c = .int .i64 (d : Int) ∧ d ≤ k * 1000021) (fun _ i => n - (intOf i).toNat)
  case atStart => exact ⟨0, 0, Nat.zero_le _, rfl, rfl, by omega⟩
  case round =>
    obtain ⟨k, d, hk, rfl, rfl, hd⟩ := hrel
    by_cases hlt : k < n
    · obtain ⟨x, hx⟩ : ∃ x, l[k]? = some x := ⟨l[k]'(by rw [← Hn.out]; exact hlt), by simp⟩
      obtain ⟨g, off, rfl, c0⟩ := HE.out k x hx
      have hxl : x.length ≤ 1000000 := HB.out x (List.mem_of_getElem? hx)
      have hd9 : d ≤ 900 * 1000021 := Nat.le_trans hd (Nat.mul_le_mul_right _ (by omega))
      clear hx
      go_wp2_with fail
      go_round
      case rel => exact ⟨k + 1, d + (x.length + 21), by omega, by go_num, by go_num, by rw [Nat.succ_mul]; omega⟩
      case measure => simp [intOf]; omega
    · have hd9 : d ≤ 1000000000 := by
        have : k * 1000021 ≤ 900 * 1000021 := Nat.mul_le_mul_right _ (by omega)
        omega
      have hmk := make_bytes0 d hd9 w
      obtain ⟨Z, hZ⟩ : ∃ Z, Z = madeCells #[.int .u8 0] d := ⟨_, rfl⟩
      rw [← hZ] at hmk
      have hzs : Z.size = d := by rw [hZ]; exact size_madeCells _ _
      have hown0 : (w.alloc (.cells Z 5)).ownsRow w.heap.size 5 1 (.slice (some ⟨w.heap.size, 0, none⟩) 0 d) 0 [] :=
        ⟨rfl, .inr ⟨w.heap.size, d, Z, rfl, Nat.le_refl _, heap_alloc_new _ _, Nat.zero_le _, by unfold maxLen; omega, by omega, by simp⟩⟩
      have HOWN0 := Lib.hid hown0
      clear hZ hzs hown0 hd
      go_wp2_with fail
      have HC0 : Hid (Chg [] w (w.alloc (.cells Z 5))) := Lib.hid ((Chg.refl _ _).alloc _)
      obtain ⟨i0, hi, hz0, hz1, hz2⟩ := info_parts info_u8g
      clear hmk
      go_loopw [5, 6] (fun lv i wr => ∃ k : Nat, k ≤ n ∧ i = .int .i64 (k : Int) ∧ wr.ownsRow w.heap.size 5 1 lv (Dg.joined (l.take k)).length (Lib.byteCells (Dg.joined (l.take k))) ∧ Chg [] w wr) (fun _ i _ => n - (intOf i).toNat)
      case atStart => exact ⟨0, Nat.zero_le _, rfl, HOWN0.out, HC0.out⟩
      case round =>
        obtain ⟨k2, hk2, rfl, hrow, hch⟩ := hrel
        have HROW := Lib.hid hrow
        have HCH := Lib.hid hch
        have HJ : Hid ((Dg.joined (l.take k2)).length ≤ 900018000 + 1800) := Lib.hid (by
          have h1 := Dg.joined_len (l.take k2) (fun x hx => HB.out x (List.mem_of_mem_take hx))
          rw [List.length_take] at h1
          have := Hn.out
          omega)
        clear hrow hch HOWN0 HC0
        by_cases hlt2 : k2 < n
        · obtain ⟨x, hx⟩ : ∃ x, l[k2]? = some x := ⟨l[k2]'(by rw [← Hn.out]; exact hlt2), by simp⟩
          obtain ⟨g, off, rfl, c0⟩ := HE.out k2 x hx
          have lg := World.block_lt_of_cell? _ _ c0
          have C0 := Lib.hid c0
          have c1 := (World.cell?_of_block (HCH.out.block g lg (by simp))).trans c0
          have hxl : x.length ≤ 1000000 := HB.out x (List.mem_of_getElem? hx)
          have HX := Lib.hid (Dg.joined_snoc l k2 x hx)
          obtain ⟨it, hit⟩ : ∃ it, it = Lib.itoa (x.length : Int) := ⟨_, rfl⟩
          have hil : it.length ≤ 21 := by rw [hit]; exact Dg.itoa_len x hxl
          have HIT := Lib.hid hit
          obtain ⟨J, hJ⟩ : ∃ J, J = Dg.joined (l.take k2) := ⟨_, rfl⟩
          rw [← hJ] at HROW HJ HX
          have hJ9 := HJ.out
          clear hx hit c0 hJ
          go_wp2_with fail
          refine (decimal_spec _ x.length (by omega)).mono ?_
          rintro e w2 ⟨rfl, rfl⟩
          rw [← HIT.out]
          have z1 : (⟨it.toArray⟩ : ByteArray).size = it.length := by rw [Lib.size_eq]
          have z2 : (⟨x.toArray⟩ : ByteArray).size = x.length := by rw [Lib.size_eq]
          have s1 : J.length + (⟨it.toArray⟩ : ByteArray).size ≤ maxLen := by rw [z1]; unfold maxLen; omega
          have s2 : J.length + (⟨it.toArray⟩ : ByteArray).size ≤ 140737488355328 := by rw [z1]; omega
          have s3 : w.heap.size ≤ wr.heap.size := HCH.out.size
          have s4 : J.length + (⟨it.toArray⟩ : ByteArray).size + 1 ≤ maxLen := by rw [z1]; unfold maxLen; omega
          have s5 : (J.length + (⟨it.toArray⟩ : ByteArray).size + 1) * 1 ≤ 140737488355328 := by rw [z1]; omega
          have s7 : J.length + (⟨it.toArray⟩ : ByteArray).size + 1 + (⟨x.toArray⟩ : ByteArray).size ≤ maxLen := by rw [z1, z2]; unfold maxLen; omega
          have s8 : J.length + (⟨it.toArray⟩ : ByteArray).size + 1 + (⟨x.toArray⟩ : ByteArray).size ≤ 140737488355328 := by rw [z1, z2]; omega
          have HS := Lib.hid (And.intro s1 (And.intro s2 (And.intro s4 (And.intro s5 (And.intro s7 s8)))))
          have HZ := Lib.hid (And.intro z1 z2)
          clear z1 z2 s1 s2 s4 s5 s7 s8
          go_wp2_with (first
            | (at_builtin; refine Lib.wpList_append_own_string _ rfl (.tmp 29) (.tmp 35) 56 9 rfl w.heap.size 5 i0 Tryz.underlying56 Tryz.underlying9 hi hz0 hz1 hz2 u5 J.length (Lib.byteCells J) rfl HROW.out ⟨it.toArray⟩ rfl HS.out.1 HS.out.2.1 s3 ?_; intro v3 w3 hown3 hgrow3 _; have HC3 := Lib.hid (HCH.out.grown hgrow3 (fun k hk => .inr (own_ge HROW.out k hk))); have HR3 := Lib.hid hown3; clear hown3 hgrow3 s3; have s6 : w.heap.size ≤ (w3.alloc (.cells #[.int .u8 58] 5)).heap.size := Nat.le_trans HC3.out.size (by simp))
            | (at_builtin; refine wpList_append_own _ rfl (.tmp 37) (.tmp 38) 56 rfl w.heap.size 5 i0 (.int .u8 0) 1 1 Tryz.underlying56 hi hz0 hz1 hz2 rfl (by decide) v3 (J.length + (⟨it.toArray⟩ : ByteArray).size) _ rfl (row_keptB HR3.out ((Chg.refl _ _).alloc _)) ⟨w3.heap.size, 0, none⟩ 1 1 [.int .u8 58] rfl rfl (one_byte w3 58) (by intro u hu; simp at hu; rw [hu]; rfl) HS.out.2.2.1 HS.out.2.2.2.1 s6 ?_; intro v4 w4 hown4 hgrow4 _; have HC4 := Lib.hid ((HC3.out.alloc _).grown hgrow4 (fun k hk => .inr (own_ge HR3.out k hk))); have HR4 := Lib.hid hown4; clear hown4 hgrow4 s6; have c4 := (World.cell?_of_block (HC4.out.block g lg (by simp))).trans C0.out; have s9 : w.heap.size ≤ w4.heap.size := HC4.out.size)
            | (at_builtin; refine Lib.wpList_append_own_string _ rfl (.tmp 40) (.tmp 44) 56 9 rfl w.heap.size 5 i0 Tryz.underlying56 Tryz.underlying9 hi hz0 hz1 hz2 v4 (J.length + (⟨it.toArray⟩ : ByteArray).size + 1) _ rfl HR4.out ⟨x.toArray⟩ rfl HS.out.2.2.2.2.1 HS.out.2.2.2.2.2 s9 ?_; intro v5 w5 hown5 hgrow5 _; have HC5 := Lib.hid (HC4.out.grown hgrow5 (fun k hk => .inr (own_ge HR4.out k hk))); have HR5 := Lib.hid hown5; clear hown5 hgrow5 s9 c4))
          go_roundw
          case rel =>
            refine ⟨k2 + 1, by omega, by go_num, ?_, HC5.out⟩
            have h := HR5.out
            rw [HX.out, ← HIT.out]
            rw [Lib.strCells_eq, Lib.strCells_eq, show [Value.int .u8 58] = Lib.byteCells [58] from rfl, ← Lib.byteCells_append, ← Lib.byteCells_append, ← Lib.byteCells_append] at h
            have hlen : (J ++ (it ++ [58] ++ x)).length = J.length + (⟨it.toArray⟩ : ByteArray).size + 1 + (⟨x.toArray⟩ : ByteArray).size := by
              rw [HZ.out.1, HZ.out.2]; simp; omega
            rw [hlen]
            simpa using h
          case measure => simp [intOf]; omega
        · have hj := joined_full l k2 n Hn.out (by omega)
          rw [hj] at HROW
          obtain ⟨bo, n2, cap2, rfl⟩ : ∃ bo n2 cap2, u5 = .slice bo n2 cap2 := by
            rcases HROW.out.2 with ⟨h, _⟩ | ⟨g, cap, cur, h, _⟩
            · exact ⟨_, _, _, h⟩
            · exact ⟨_, _, _, h⟩
          have hcv : (convert 56 9 (.slice bo n2 cap2)).run Tryz.prog wr = .ok (.string ⟨(Dg.joined l).toArray⟩) wr := by
            rw [run_convert_bytes_string _ _ _ 5 _ _ _ Tryz.underlying56 Tryz.underlying5 Tryz.underlying9]
            exact run_row_string (P := Tryz.prog) HROW.out
          clear hj HJ
          go_wp2_with fail
          go_ret
          exact ⟨rfl, HCH.out⟩
end Go.Proofs.YtpmkgedlnanjiaaGreatDoor
namespace Go.Proofs.YtpmkgedlnanjiaaGreatDoor
set_option linter.unusedVariables false
set_option linter.unusedSimpArgs false
set_option maxRecDepth 100000
open Go Go.RowKit

namespace Dg
/-- The stream of bytes: the text, a one, zeros. -/
def cs (l : Bytes) (j : Nat) : Nat := if j < l.length then (l.getD j 0).toNat else if j = l.length then 1 else 0
theorem cs_lt (l : Bytes) (j : Nat) : cs l j < 256 := by
  unfold cs
  split
  · exact UInt8.toNat_lt _
  · split <;> omega
/-- The value of the bytes from place k of a block on. -/
def V (l : Bytes) (fr : Nat) : Nat → Nat
  | 0 => 0
  | k + 1 => V l fr k * 256 + cs l (fr + (7 - k))
theorem V_lt (l : Bytes) (fr : Nat) : ∀ k, V l fr k < 256 ^ k
  | 0 => by simp [V]
  | k + 1 => by
    have h := V_lt l fr k
    have h2 := cs_lt l (fr + (7 - k))
    rw [V, Nat.pow_succ]
    omega
/-- The value of the first k bytes of a block. -/
def Pv (l : Bytes) (fr : Nat) : Nat → Nat
  | 0 => 0
  | k + 1 => Pv l fr k + cs l (fr + k) * 256 ^ k
theorem Pv_lt (l : Bytes) (fr : Nat) : ∀ k, Pv l fr k < 256 ^ k
  | 0 => by simp [Pv]
  | k + 1 => by
    have h := Pv_lt l fr k
    have h2 := cs_lt l (fr + k)
    have h3 : cs l (fr + k) * 256 ^ k ≤ 255 * 256 ^ k := Nat.mul_le_mul_right _ (by omega)
    rw [Pv, Nat.pow_succ]
    omega
theorem P_V (l : Bytes) (fr b : Nat) : ∀ a, a + b = 8 → Pv l fr a + V l fr b * 256 ^ a = Pv l fr 8 := by
  induction b with
  | zero =>
    intro a h
    obtain rfl : a = 8 := by omega
    rw [V, Nat.zero_mul, Nat.add_zero]
  | succ b ih =>
    intro a h
    have h1 := ih (a + 1) (by omega)
    rw [Pv, Nat.pow_succ] at h1
    rw [V, show fr + (7 - b) = fr + a by omega, Nat.add_mul, ← h1, Nat.mul_assoc, Nat.mul_comm 256]
    omega
theorem V_P (l : Bytes) (fr : Nat) : V l fr 8 = Pv l fr 8 := by
  have h := P_V l fr 8 0 rfl
  rw [Pv, Nat.pow_zero, Nat.mul_one, Nat.zero_add] at h
  exact h
/-- The state behind j blocks. -/
def st (l : Bytes) : Nat → Nat
  | 0 => 7046029254386353131
  | j + 1 => mx (st l j ^^^ V l (8 * j) 8)
theorem st_lt (l : Bytes) : ∀ j, st l j < 18446744073709551616
  | 0 => by rw [st]; decide
  | j + 1 => mx_lt _
def feedTo (l : Bytes) : Nat → St
  | 0 => start
  | j + 1 => (feedTo l j).add (UInt8.ofNat (cs l j))
theorem or_add9 (b c n : Nat) (hb : b < 2 ^ n) : b ||| c * 2 ^ n = b + c * 2 ^ n := by
  rw [Nat.or_comm, Nat.mul_comm, ← Nat.two_pow_add_eq_or_of_lt hb, Nat.add_comm]
theorem pow_256 (k : Nat) : (256 : Nat) ^ k = 2 ^ (8 * k) := by rw [Nat.pow_mul]
theorem feedTo_blocks (l : Bytes) : ∀ j k : Nat, k < 8 → feedTo l (8 * j + k) = ⟨st l j, Pv l (8 * j) k, k⟩ := by
  have step : ∀ j k : Nat, k < 7 → feedTo l (8 * j + k) = ⟨st l j, Pv l (8 * j) k, k⟩ → feedTo l (8 * j + (k + 1)) = ⟨st l j, Pv l (8 * j) (k + 1), k + 1⟩ := by
    intro j k hk h
    rw [show 8 * j + (k + 1) = (8 * j + k) + 1 by omega, feedTo, h]
    unfold St.add
    simp only
    rw [if_neg (by omega), UInt8.toNat_ofNat_of_lt' (by have := cs_lt l (8 * j + k); exact this), or_add9 _ _ _ (by rw [← pow_256]; exact Pv_lt l (8 * j) k), ← pow_256]
    rfl
  have all : ∀ j, feedTo l (8 * j) = ⟨st l j, 0, 0⟩ → ∀ k, k < 8 → feedTo l (8 * j + k) = ⟨st l j, Pv l (8 * j) k, k⟩ := by
    intro j h k
    induction k with
    | zero => intro _; exact h
    | succ k ih => intro hk; exact step j k (by omega) (ih (by omega))
  have base : ∀ j, feedTo l (8 * j) = ⟨st l j, 0, 0⟩ := by
    intro j
    induction j with
    | zero => rfl
    | succ j ih =>
      have h7 := all j ih 7 (by omega)
      rw [show 8 * (j + 1) = (8 * j + 7) + 1 by omega, feedTo, h7]
      unfold St.add
      simp only
      rw [if_pos trivial, UInt8.toNat_ofNat_of_lt' (by have := cs_lt l (8 * j + 7); exact this), or_add9 _ _ _ (by rw [← pow_256]; exact Pv_lt l (8 * j) 7), ← pow_256, take_mx, st, V_P]
      rfl
  exact fun j => all j (base j)
theorem feedTo_feed (l : Bytes) : ∀ j, j ≤ l.length → feedTo l j = feed (l.take j)
  | 0, _ => by simp [feedTo, feed]
  | j + 1, h => by
    rw [feedTo, feedTo_feed l j (by omega)]
    have hx : l[j]? = some (l[j]'(by omega)) := List.getElem?_eq_getElem _
    rw [feed_snoc l j _ hx]
    congr 1
    unfold cs
    rw [if_pos (by omega), List.getD_eq_getElem?_getD, hx]
    simp
theorem pad_feedTo (l : Bytes) : ∀ k j : Nat, l.length < j → j ≤ 8 * (l.length / 8 + 1) → 8 * (l.length / 8 + 1) ≤ j + k → pad k (feedTo l j) = feedTo l (8 * (l.length / 8 + 1))
  | 0, j, h1, h2, h3 => by rw [show j = 8 * (l.length / 8 + 1) by omega]; rfl
  | k + 1, j, h1, h2, h3 => by
    have hb := feedTo_blocks l (j / 8) (j % 8) (by omega)
    rw [show 8 * (j / 8) + j % 8 = j by omega] at hb
    show (if (feedTo l j).n = 0 then feedTo l j else pad k ((feedTo l j).add 0)) = _
    by_cases h : j % 8 = 0
    · rw [if_pos (by rw [hb]; exact h), show j = 8 * (l.length / 8 + 1) by omega]
    · rw [if_neg (by rw [hb]; exact h)]
      have hs : (feedTo l j).add 0 = feedTo l (j + 1) := by
        rw [feedTo]
        congr 1
        unfold cs
        rw [if_neg (by omega), if_neg (by omega)]
        rfl
      rw [hs]
      exact pad_feedTo l k (j + 1) (by omega) (by omega) (by omega)
theorem sum_st (l : Bytes) : sum l = text (st l (l.length / 8 + 1)) := by
  unfold sum
  have h1 : (feed l).add 1 = feedTo l (l.length + 1) := by
    rw [feedTo, feedTo_feed l l.length (Nat.le_refl _), List.take_length]
    congr 1
    unfold cs
    rw [if_neg (by omega), if_pos rfl]
    rfl
  rw [h1, pad_feedTo l 8 (l.length + 1) (by omega) (by omega) (by omega), show 8 * (l.length / 8 + 1) = 8 * (l.length / 8 + 1) + 0 by omega, feedTo_blocks l _ 0 (by decide)]
theorem and15 (a : Nat) : a &&& 15 = a % 16 := Nat.and_two_pow_sub_one_eq_mod a 4
theorem text_drop (S i : Nat) (h : i < 16) : (text S).drop (16 - (i + 1)) = hexd ((S / 16 ^ i) % 16) :: (text S).drop (16 - i) := by
  have hl : (text S).length = 16 := by unfold text; simp
  rw [List.drop_eq_getElem_cons (by rw [hl]; omega), show 16 - (i + 1) + 1 = 16 - i by omega]
  congr 1
  unfold text
  simp only [List.getElem_map, List.getElem_range]
  unfold dig
  rw [and15, show 60 - 4 * (16 - (i + 1)) = 4 * i by omega, Nat.pow_mul]
end Dg
end Go.Proofs.YtpmkgedlnanjiaaGreatDoor
namespace Go.Proofs.YtpmkgedlnanjiaaGreatDoor
set_option linter.unusedVariables false
set_option linter.unusedSimpArgs false
set_option maxRecDepth 100000
open Go Go.RowKit Go.Shelf

theorem hex_str : ∀ d : Nat, d < 16 → (⟨#[48, 49, 50, 51, 52, 53, 54, 55, 56, 57, 97, 98, 99, 100, 101, 102]⟩ : ByteArray).extract d (d + 1) = ⟨[Dg.hexd d].toArray⟩ := by decide
set_option maxHeartbeats 2000000 in
theorem rsum_spec (w : World) (l : Bytes) (hl : l.length ≤ 4000000000000) :
    Calls Tryz.prog 101 #[.string ⟨l.toArray⟩] w fun e w' => e = .returned (.string ⟨(Dg.sum l).toArray⟩) ∧ w = w' := by
  have HSUM := Lib.hid (Dg.sum_st l)
  obtain ⟨n, hn⟩ : ∃ n, n = l.length := ⟨_, rfl⟩
  have HN := Lib.hid hn
  have hsz : (⟨l.toArray⟩ : ByteArray).size = n := by rw [Lib.size_eq, hn]
  have hn9 : n ≤ 4000000000000 := by omega
  clear hn hl
  go_enter Tryz.func101, Tryz.ntmps101
  go_wp2_with fail
  go_loop [3, 4] (fun s f => ∃ j : Nat, j ≤ n / 8 + 1 ∧ f = .int .i64 ((8 * j : Nat) : Int) ∧ s = .int .u64 (Dg.st l j : Nat)) (fun _ f => n + 9 - (intOf f).toNat)
  case atStart => exact ⟨0, Nat.zero_le _, rfl, rfl⟩
  case round =>
    obtain ⟨j, hj, rfl, rfl⟩ := hrel
    obtain ⟨fr, hfr⟩ : ∃ fr, fr = 8 * j := ⟨_, rfl⟩
    rw [← hfr]
    have HFR := Lib.hid hfr
    have hst := Dg.st_lt l j
    obtain ⟨S, hS⟩ : ∃ S, S = Dg.st l j := ⟨_, rfl⟩
    rw [← hS] at hst ⊢
    have HS := Lib.hid hS
    by_cases hle : fr ≤ n
    · have hle2 : (fr : Int) ≤ (n : Int) := by omega
      clear hfr hS
      go_wp2_with fail
      go_loop [5, 6] (fun b i => ∃ (k : Nat) (z : Int), k ≤ 8 ∧ z = 7 - (k : Int) ∧ i = .int .i64 z ∧ b = .int .u64 (Dg.V l fr k : Nat)) (fun _ i => (intOf i + 1).toNat)
      case atStart => exact ⟨0, 7, by omega, by omega, rfl, rfl⟩
      case round =>
        obtain ⟨k, z, hk, hz, rfl, rfl⟩ := hrel
        by_cases hk8 : k < 8
        · obtain ⟨ii, hii⟩ : ∃ ii : Nat, z = (ii : Int) := ⟨7 - k, by omega⟩
          subst hii
          have hki : ii = 7 - k := by omega
          have hV := Dg.V_lt l fr k
          have hV7 : Dg.V l fr k < 72057594037927936 := Nat.lt_of_lt_of_le hV (Nat.le_trans (Nat.pow_le_pow_right (by decide) (show k ≤ 7 by omega)) (by decide))
          have HVS : Hid (Dg.V l fr (k + 1) = Dg.V l fr k * 256 + Dg.cs l (fr + ii)) := Lib.hid (by rw [Dg.V, ← hki])
          have hcl := Dg.cs_lt l (fr + ii)
          obtain ⟨x, hx⟩ : ∃ x, x = Dg.V l fr k := ⟨_, rfl⟩
          obtain ⟨cx, hcx⟩ : ∃ cx, cx = Dg.cs l (fr + ii) := ⟨_, rfl⟩
          rw [← hx] at hV7 HVS ⊢
          rw [← hcx] at hcl HVS
          have HCX := Lib.hid hcx
          have hw1 : IntKind.u64.wrap ((x : Int) * 256) = ((x * 256 : Nat) : Int) := by rw [IntWalk.u64_in _ (by omega)]; omega
          have hii0 : (0 : Int) ≤ (ii : Int) := by omega
          have hii7 : ii ≤ 7 := by omega
          have HKI := Lib.hid hki
          clear hV hx hcx hki hz
          by_cases hlt : fr + ii < n
          · have hb : (fr : Int) + (ii : Int) < (n : Int) := by omega
            have hne : ((fr : Int) + (ii : Int) == (n : Int)) = false := by rw [beq_eq_false_iff_ne]; omega
            obtain ⟨bx, hbx⟩ : ∃ bx, l[fr + ii]? = some bx := ⟨l[fr + ii]'(by rw [← HN.out]; exact hlt), by simp⟩
            have HC : Hid (cx = bx.toNat) := Lib.hid (by
              rw [HCX.out]
              unfold Dg.cs
              rw [if_pos (by rw [← HN.out]; exact hlt), List.getD_eq_getElem?_getD, hbx]
              rfl)
            have HBX := Lib.hid hbx
            have hbl := bx.toNat_lt
            clear hbx
            go_wp2_with fail
            refine ⟨⟨k + 1, (ii : Int) - 1, by omega, by have := HKI.out; omega, rfl, ?_⟩, by simp [intOf]⟩
            rw [byte_of HBX.out, IntWalk.u64_in (bx.toNat : Int) (by omega), IntWalk.u64_in _ (by omega), HVS.out, HC.out]
            exact vint (by omega)
          · have hb : ¬ (fr : Int) + (ii : Int) < (n : Int) := by omega
            by_cases heq : fr + ii = n
            · have hne : ((fr : Int) + (ii : Int) == (n : Int)) = true := by rw [beq_iff_eq]; omega
              have HC : Hid (cx = 1) := Lib.hid (by
                rw [HCX.out]
                unfold Dg.cs
                rw [if_neg (by rw [← HN.out]; exact hlt), if_pos (by rw [← HN.out]; exact heq)])
              clear heq
              go_wp2_with fail
              refine ⟨⟨k + 1, (ii : Int) - 1, by omega, by have := HKI.out; omega, rfl, ?_⟩, by simp [intOf]⟩
              rw [HVS.out, HC.out]
              exact vint (by omega)
            · have hne : ((fr : Int) + (ii : Int) == (n : Int)) = false := by rw [beq_eq_false_iff_ne]; omega
              have HC : Hid (cx = 0) := Lib.hid (by
                rw [HCX.out]
                unfold Dg.cs
                rw [if_neg (by rw [← HN.out]; exact hlt), if_neg (by rw [← HN.out]; exact heq)])
              clear heq
              go_wp2_with fail
              refine ⟨⟨k + 1, (ii : Int) - 1, by omega, by have := HKI.out; omega, rfl, ?_⟩, by simp [intOf]⟩
              rw [HVS.out, HC.out]
              exact vint (by omega)
        · have hk9 : k = 8 := by omega
          subst hk9
          have hz1 : z < 0 := by omega
          have hV := Dg.V_lt l fr 8
          have hV9 : Dg.V l fr 8 < 18446744073709551616 := Nat.lt_of_lt_of_le hV (by decide)
          have hxx := bits_xor_u64_nat S (Dg.V l fr 8) hst hV9
          have hxl := Dg.xor_lt hst hV9
          have HNX : Hid (Dg.mx (S ^^^ Dg.V l fr 8) = Dg.st l (j + 1)) := Lib.hid (by rw [Dg.st, ← HS.out, ← HFR.out])
          obtain ⟨X, hX⟩ : ∃ X, X = S ^^^ Dg.V l fr 8 := ⟨_, rfl⟩
          rw [← hX] at hxx hxl HNX
          clear hV hz hX
          go_wp2_with fail
          refine (mix_spec _ X hxl).mono ?_
          rintro e w2 ⟨rfl, rfl⟩
          rw [HNX.out]
          go_wp2_with fail
          have hj2 : j + 1 ≤ n / 8 + 1 := by have := HFR.out; omega
          refine ⟨⟨j + 1, hj2, vint (by rw [HFR.out]; omega), rfl⟩, by simp [intOf]; omega⟩
    · have hle2 : ¬ (fr : Int) ≤ (n : Int) := by omega
      have hjn : j = n / 8 + 1 := by omega
      have HT : Hid (Dg.sum l = Dg.text S) := Lib.hid (by rw [HSUM.out, hS, hjn, HN.out])
      have htl : (Dg.text S).length = 16 := by unfold Dg.text; simp
      obtain ⟨tx, htx⟩ : ∃ tx, tx = Dg.text S := ⟨_, rfl⟩
      have HTD : Hid (∀ i, i < 16 → tx.drop (16 - (i + 1)) = Dg.hexd ((S / 16 ^ i) % 16) :: tx.drop (16 - i)) := Lib.hid (fun i hi => by rw [htx]; exact Dg.text_drop S i hi)
      rw [← htx] at HT htl
      have HTL := Lib.hid htl
      clear hfr hS hjn htl htx
      go_wp2_with fail
      go_loop [3, 7, 8] (fun s t i => ∃ (k : Nat) (r : Nat), k ≤ 16 ∧ i = .int .i64 (k : Int) ∧ t = .string ⟨(tx.drop (16 - k)).toArray⟩ ∧ s = .int .u64 (r : Int) ∧ r = S / 16 ^ k ∧ r < 18446744073709551616) (fun _ _ i => 16 - (intOf i).toNat)
      case atStart => exact ⟨0, S, by omega, rfl, by rw [show 16 - 0 = tx.length by rw [HTL.out], List.drop_length], rfl, by simp, hst⟩
      case round =>
        obtain ⟨k, r, hk, rfl, rfl, rfl, hr, hrl⟩ := hrel
        by_cases hk16 : k < 16
        · have hd := hex_str (r % 16) (Nat.mod_lt _ (by decide))
          have hrs := HTD.out k hk16
          rw [← hr] at hrs
          have HR := Lib.hid hr
          have hr0 : (0 : Int) ≤ (r : Int) := by omega
          have hdl : (tx.drop (16 - k)).length = k := by rw [List.length_drop, HTL.out]; omega
          obtain ⟨tl, htl⟩ : ∃ tl, tl = tx.drop (16 - k) := ⟨_, rfl⟩
          rw [← htl] at hdl hrs ⊢
          have HRS := Lib.hid hrs
          have htl9 : tl.length ≤ 16 := by omega
          have hsz2 : ¬ 9223372036854775807 < 1 + tl.length := by omega
          clear hrs hr hdl htl
          go_wp2_with fail
          refine ⟨⟨k + 1, r / 16, by omega, by go_num, ?_, vint (by omega), ?_, by omega⟩, by simp [intOf]; omega⟩
          · rw [HRS.out]
            exact congrArg Value.string (join2 [Dg.hexd (r % 16)] tl)
          · rw [HR.out, Nat.pow_succ, Nat.div_div_eq_div_mul]
        · have hkk : k = 16 := by omega
          subst hkk
          rw [show 16 - 16 = 0 from rfl, List.drop_zero]
          clear hr
          go_wp2_with fail
          go_ret
          exact ⟨by rw [HT.out]; rfl, rfl⟩
end Go.Proofs.YtpmkgedlnanjiaaGreatDoor
