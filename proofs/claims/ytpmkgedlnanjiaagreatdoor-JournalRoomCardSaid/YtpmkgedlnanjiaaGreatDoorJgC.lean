/-
  The digest of layer 2: the digest of a text.
-/
import Derived.Test.YtpmkgedlnanjiaaGreatDoorJgB
namespace Go.Proofs.YtpmkgedlnanjiaaGreatDoor
set_option linter.unusedVariables false
set_option maxRecDepth 100000
set_option linter.unusedSimpArgs false
open Go Go.RowKit
attribute [local irreducible] Go.wpStill

namespace Dg
def start : St := ⟨7046029254386353131, 0, 0⟩
def feed (l : Bytes) : St := l.foldl St.add start
def pad : Nat → St → St
  | 0, t => t
  | k + 1, t => if t.n = 0 then t else pad k (t.add 0)
def sum (l : Bytes) : Bytes := text (pad 8 ((feed l).add 1)).s
theorem start_ok : start.Ok := ⟨by decide, by decide, by decide⟩
theorem feed_ok (l : Bytes) : (feed l).Ok := by
  unfold feed
  suffices h : ∀ t : St, t.Ok → (l.foldl St.add t).Ok from h _ start_ok
  induction l with
  | nil => exact fun t h => h
  | cons c l ih => exact fun t h => ih _ (St.add_ok h c)
theorem feed_snoc (l : Bytes) (k : Nat) (c : UInt8) (h : l[k]? = some c) : feed (l.take (k + 1)) = (feed (l.take k)).add c := by
  unfold feed
  rw [List.take_add_one, h, Option.toList_some, List.foldl_append]
  rfl
theorem sum_len (l : Bytes) : (sum l).length = 16 := by unfold sum text; simp
end Dg
/-- How many rounds the padding has left. -/
def leftOf (w : World) (b : Nat) : Nat := match w.cell? ⟨b, 0, none⟩ with
  | some (.int _ i) => (8 - i.toNat) % 8
  | _ => 0
theorem leftOf_blk {w : World} {b n : Nat} {e : TypeId} (h : Blk w b [.int .i64 (n : Int)] e) : leftOf w b = (8 - n) % 8 := by
  unfold leftOf
  rw [h.cell (i := 0) rfl]
  simp
theorem byte_of {t : Bytes} {k : Nat} {x : UInt8} (h : t[k]? = some x) (hk : k < (⟨t.toArray⟩ : ByteArray).size) : (⟨t.toArray⟩ : ByteArray)[k]'hk = x := by
  have h2 := (List.getElem?_eq_some_iff.1 h).2
  rw [← h2]
  rfl
structure Three (w0 w : World) (bb bn bs : Nat) (t : Dg.St) : Prop where
  hb : Blk w bb [.int .u64 (t.b : Int)] 123
  hn : Blk w bn [.int .i64 (t.n : Int)] 3
  hs : Blk w bs [.int .u64 (t.s : Int)] 129
  hc : Chg [] w0 w
  d1 : bb ≠ bn
  d2 : bb ≠ bs
  d3 : bn ≠ bs
  l1 : w0.heap.size ≤ bb
  l2 : w0.heap.size ≤ bn
  l3 : w0.heap.size ≤ bs
  ok : t.Ok
theorem Three.add {w0 w : World} {bb bn bs : Nat} {t : Dg.St} (H : Hid (Three w0 w bb bn bs t)) (c : UInt8) :
    Calls Tryz.prog 106 #[.int .u8 (c.toNat : Int), .pointer (some ⟨bb, 0, none⟩), .pointer (some ⟨bn, 0, none⟩), .pointer (some ⟨bs, 0, none⟩)] w fun e w' => e = .returned (.tuple #[]) ∧ Three w0 w' bb bn bs (t.add c) := by
  refine (add_spec w bb bn bs t H.out.ok c H.out.d1 H.out.d2 H.out.d3 (Lib.hid H.out.hb) (Lib.hid H.out.hn) (Lib.hid H.out.hs)).mono ?_
  rintro e w' ⟨rfl, hc, h1, h2, h3⟩
  refine ⟨rfl, h1, h2, h3, H.out.hc.trans hc ?_, H.out.d1, H.out.d2, H.out.d3, H.out.l1, H.out.l2, H.out.l3, Dg.St.add_ok H.out.ok c⟩
  intro k hk
  simp at hk
  rcases hk with rfl | rfl | rfl
  · exact .inr H.out.l1
  · exact .inr H.out.l2
  · exact .inr H.out.l3

set_option maxHeartbeats 2000000 in
theorem sum_spec (w : World) (HL : Hid (Laid w)) (l : Bytes) (hl : l.length ≤ 1000000000) :
    Calls Tryz.prog 91 #[.string ⟨l.toArray⟩] w fun e w' => e = .returned (.string ⟨(Dg.sum l).toArray⟩) ∧ Chg [] w w' := by
  have hT : Three w (((w.alloc (.cells #[.int .u64 7046029254386353131] 129)).alloc (.cells #[.int .u64 0] 123)).alloc (.cells #[.int .i64 0] 3)) (w.heap.size + 1) (w.heap.size + 1 + 1) w.heap.size Dg.start := by
    have h1 := Blk.new w [.int .u64 7046029254386353131] 129
    have h2 := Blk.new (w.alloc (.cells #[.int .u64 7046029254386353131] 129)) [.int .u64 0] 123
    have h3 := Blk.new ((w.alloc (.cells #[.int .u64 7046029254386353131] 129)).alloc (.cells #[.int .u64 0] 123)) [.int .i64 0] 3
    simp only [World.size_alloc] at h2 h3
    exact ⟨h2.alloc _, h3, (h1.alloc _).alloc _, ((((Chg.refl _ _).alloc _).alloc _).alloc _), by omega, by omega, by omega, by omega, by omega, by omega, Dg.start_ok⟩
  have HT := Lib.hid hT
  clear hT
  go_enter Tryz.func91, Tryz.ntmps91
  go_wp2_with fail
  generalize w.heap.size + 1 + 1 = bn at *
  generalize w.heap.size + 1 = bb at *
  generalize hbs : w.heap.size = bs at *
  clear hbs
  go_loopw [11] (fun i wr => ∃ k : Nat, k ≤ l.length ∧ i = .int .i64 k ∧ Three w wr bb bn bs (Dg.feed (l.take k))) (fun i _ => l.length - (intOf i).toNat)
  case atStart => exact ⟨0, Nat.zero_le _, rfl, HT.out⟩
  case round =>
    obtain ⟨k, hk, rfl, hT⟩ := hrel
    have HT1 := Lib.hid hT
    clear hT HT
    by_cases hlt : k < l.length
    · obtain ⟨c, hx⟩ : ∃ c, l[k]? = some c := ⟨l[k], by simp [hlt]⟩
      have hkx : k < (⟨l.toArray⟩ : ByteArray).size := by rw [Lib.size_eq]; simp; omega
      have hbx := byte_of hx hkx
      have HF := Lib.hid (Dg.feed_snoc l k c hx)
      clear hx
      go_wp2_with fail
      refine (Three.add HT1 c).mono ?_
      rintro e w2 ⟨rfl, hT⟩
      rw [← HF.out] at hT
      have HT2 := Lib.hid hT
      clear hT HT1
      go_wp2_with fail
      go_roundw
      case rel => exact ⟨k + 1, by omega, by go_num, HT2.out⟩
      case measure => simp [intOf]; omega
    · have hT := HT1.out
      rw [List.take_of_length_le (by omega)] at hT
      have HT2 := Lib.hid hT
      clear hT HT1
      go_wp2_with fail
      refine (Three.add HT2 1).mono ?_
      rintro e w2 ⟨rfl, hT⟩
      obtain ⟨t1, ht1⟩ : ∃ t1, t1 = (Dg.feed l).add 1 := ⟨_, rfl⟩
      rw [← ht1] at hT
      have HT3 := Lib.hid hT
      have HS : Hid (Dg.sum l = Dg.text (Dg.pad 8 t1).s) := Lib.hid (by rw [ht1]; rfl)
      clear hT HT2 ht1
      go_wp2_with fail
      go_loopw [] (fun wr => ∃ (t : Dg.St) (f : Nat), Three w wr bb bn bs t ∧ Dg.pad 8 t1 = Dg.pad f t ∧ (t.n = 0 ∨ 8 ≤ f + t.n)) (fun wr => leftOf wr bn)
      case atStart => exact ⟨t1, 8, HT3.out, rfl, by omega⟩
      case round =>
        obtain ⟨t, f, hT, hp, hf⟩ := hrel
        have HT4 := Lib.hid hT
        have HP := Lib.hid hp
        have hn8 := hT.ok.n
        have n0 := hT.hn.cell (i := 0) rfl
        have s0 := hT.hs.cell (i := 0) rfl
        clear hT hp HT3
        by_cases hn : t.n = 0
        · have hpad : Dg.pad f t = t := by
            cases f with
            | zero => rfl
            | succ f => unfold Dg.pad; rw [if_pos hn]
          have hb0 : ¬ 0 < (t.n : Int) := by omega
          have HPD := Lib.hid hpad
          rw [hn] at n0
          clear hpad hn hf hb0
          go_wp2_with fail
          refine (dtext_spec _ (Lib.hid (HL.out.quiet HT4.out.hc)) t.s HT4.out.ok.s).mono ?_
          rintro e w5 ⟨rfl, hc⟩
          have HC5 := Lib.hid (HT4.out.hc.trans hc (by simp))
          clear hc n0 s0
          go_wp2_with fail
          go_ret
          exact ⟨by rw [HS.out, HP.out, HPD.out]; rfl, HC5.out⟩
        · have hb0 : 0 < (t.n : Int) := by omega
          obtain ⟨f, rfl⟩ : ∃ f', f = f' + 1 := ⟨f - 1, by omega⟩
          have HPS : Hid (Dg.pad (f + 1) t = Dg.pad f (t.add 0)) := Lib.hid (by
            show (if t.n = 0 then t else Dg.pad f (t.add 0)) = _
            rw [if_neg hn])
          have hnn : (t.add 0).n = 0 ∨ ((t.add 0).n = t.n + 1 ∧ t.n + 1 < 8) := by
            unfold Dg.St.add
            split
            · exact .inl rfl
            · exact .inr ⟨rfl, by omega⟩
          have HNN := Lib.hid hnn
          have HHF := Lib.hid hf
          have HHN := Lib.hid hn
          clear hnn hf hn
          go_wp2_with fail
          refine (Three.add HT4 0).mono ?_
          rintro e w5 ⟨rfl, hT⟩
          have HT5 := Lib.hid hT
          clear hT n0 s0
          go_wp2_with fail
          go_roundw
          case rel =>
            refine ⟨t.add 0, f, HT5.out, by rw [HP.out, HPS.out], ?_⟩
            have h1 := HHF.out
            have h2 := HNN.out
            have h3 := HHN.out
            omega
          case measure =>
            rw [leftOf_blk HT5.out.hn, leftOf_blk HT4.out.hn]
            have h2 := HNN.out
            have h3 := HHN.out
            rcases h2 with h2 | h2
            · rw [h2]
              omega
            · rw [h2.1]
              omega
end Go.Proofs.YtpmkgedlnanjiaaGreatDoor
