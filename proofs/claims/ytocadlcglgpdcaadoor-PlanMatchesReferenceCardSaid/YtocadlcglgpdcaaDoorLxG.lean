/-
 Layer 10: the iterator of the tokens.
-/
import Derived.Test.YtocadlcglgpdcaaDoorLxF
import Derived.RangeFuncNested
import Derived.RangeFuncBound
import Derived.RangeFuncCalls
import Derived.RangeFuncLeaves
import Derived.Shelf.Abstract
import Derived.Shelf.RegionOpen
import Derived.OwnWalkIn
import Derived.TacticsInMore
import Derived.LoopNIn
import Derived.LoopIn
import Derived.Sort.CutIn
import Derived.Scope
namespace Go.Proofs.YtocadlcglgpdcaaDoor
set_option linter.unusedVariables false
set_option linter.unusedSimpArgs false
open Go Go.RowKit Go.Shelf
attribute [local go_sem] Oper.semAt_some
attribute [local irreducible] Lx.tab Lx.tab0 Lx.cls

def tkv (t : Lx.Tk) : Value := .agg #[.int .i64 t.kind, .string ⟨t.text.toArray⟩, .int .i64 t.n, .int .i64 t.at_]
def fnd (x : Lx.Tk × Nat) : Value := .agg #[.int .i64 x.1.kind, .string ⟨x.1.text.toArray⟩, .int .i64 x.1.n, .int .i64 x.1.at_, .int .i64 x.2]
def atv (bt bc : Nat) : Value := .func (.func 43) #[] #[.pointer (some ⟨bt, 0, none⟩), .pointer (some ⟨bc, 0, none⟩)]
theorem Chg.grown0 {w w' : World} (h : Chg [] w w') : w.grownBy w' none := ⟨h.os, h.tape, h.output, h.size, fun k hk _ => h.block k hk (by simp)⟩
theorem chg_bytes (w : World) (e : TypeId) (s : ByteArray) : Chg [] w (Lib.bytesWorld w e s) := ⟨rfl, rfl, rfl, by rw [Lib.bytesWorld_size]; omega, fun j hj _ => Lib.bytesWorld_at_old w e s j hj⟩
theorem mk_n {s : Bytes} {o kd ln er : Nat} (h : Lx.tok s = (kd, ln, er)) : (Lx.mk o s).n = if kd = 2 ∧ er = 0 then Lx.num (s.take ln) else 0 := by unfold Lx.mk; rw [h]
theorem line_pos2 {s : Bytes} {k : Nat} (h : k < s.length) (hc : Lx.at' s k = 2) : 0 < Lx.wl Lx.line (s.drop k) := by
 rw [Lx.at'_lt h] at hc
 rw [List.drop_eq_getElem_cons h]
 exact Lx.wl_pos (by
  unfold Lx.line
  rw [decide_eq_true_iff]
  intro e
  rw [e] at hc
  revert hc
  decide +kernel)
set_option maxRecDepth 100000 in
set_option maxHeartbeats 4000000 in
theorem toks_in (n : Nat) (hn : 3 ≤ n) (l bt bc ba : Nat) (s : Bytes) (hs : s.length ≤ 1000000) (J Jx : List (Lx.Tk × Nat) → World → Prop) (Kp : World → World → Prop)
 (HJ : Hid (∀ pre A B, J pre A → A.grownBy B none → J pre B))
 (HP : Hid (∀ pre A, J pre A → A.cell? ⟨bt, 0, none⟩ = some (.string ⟨s.toArray⟩) ∧ Blk A bc Lx.tab 96 ∧ A.cell? ⟨ba, 0, none⟩ = some (atv bt bc)))
 (HK : Hid (∀ pre V A B g, J pre V → V.grownBy A none → V.heap.size ≤ g → g < A.heap.size → (∃ i u, A.cell? ⟨g, i, none⟩ = some u) → Kp A B → B.heap[g]? = A.heap[g]?))
 (HY : Hid (∀ pre x A, J pre A → (pre ++ [x]) <+: Lx.from' s 0 → YieldAt Fence.wide (n - 1) Tryd.prog l #[fnd x] A fun e B => (e = .returned (.bool true) ∧ J (pre ++ [x]) B ∧ Kp A B) ∨ (e = .returned (.bool false) ∧ Jx (pre ++ [x]) B)))
 (W : World) (h0 : J [] W) :
 CallsIn Fence.wide n Tryd.prog 44 #[.func (.yield l) #[] #[], .pointer (some ⟨bt, 0, none⟩), .pointer (some ⟨ba, 0, none⟩)] W fun e W' => (∃ v, e = .returned v) ∧
  (J (Lx.from' s 0) W' ∨ ∃ pre, pre <+: Lx.from' s 0 ∧ Jx pre W') := by
 obtain ⟨sb, hsb⟩ : ∃ sb : ByteArray, sb = ⟨s.toArray⟩ := ⟨_, rfl⟩
 rw [← hsb] at HP
 have hsz : sb.size = s.length := by rw [hsb]; rfl
 have HSB := Lib.hid hsb
 have HSZ := Lib.hid hsz
 clear hsb hsz
 refine callsIn_of_wp Tryd.func44 rfl trivial ?_ rfl
 simp only [Tryd.ntmps44, List.size_toArray, List.length_cons, List.length_nil, Nat.reduceAdd, Nat.reduceSub, Array.replicate_succ, Array.replicate_zero, List.push_toArray, List.append_toArray, List.nil_append, List.cons_append]
 refine wpIn_wide.2 (wp_scope_straight ((wpIn_wide (n := n)).1 ?_))
 gi_wp2
 apply wpIn_label
 gi_wp2
 gi_loopw [4] (fun i wr => ∃ (k : Nat) (pre : List (Lx.Tk × Nat)), i = .int .i64 (k : Int) ∧ k ≤ s.length ∧ Hid (Lx.from' s 0 = pre ++ Lx.from' s k) ∧ J pre wr)
  (fun i _ => s.length - (intOf i).toNat)
 case atStart => exact ⟨0, [], rfl, Nat.zero_le _, Lib.hid rfl, h0⟩
 case round =>
  obtain ⟨k, pre, rfl, hk, hfr, hJ1⟩ := hrel
  obtain ⟨c1, c2, c3⟩ := HP.out _ _ hJ1
  have HB := Lib.hid c2
  have HJ1 := Lib.hid hJ1
  have l1 : bt < wr.heap.size := World.block_lt_of_cell? _ _ c1
  have l2 : bc < wr.heap.size := c2.lt
  have l3 : ba < wr.heap.size := World.block_lt_of_cell? _ _ c3
  clear c2 hJ1
  by_cases hlt : k < s.length
  · have q1 : (k : Int) < (sb.size : Int) := by rw [HSZ.out]; omega
    have HLT := Lib.hid hlt
    unfold atv at c3
    gi_wp2
    obtain ⟨W1, hW1⟩ : ∃ W1, W1 = wr.alloc (.cells #[.int .i64 0, .string ⟨#[]⟩, .int .i64 0, .int .i64 k, .int .i64 0] 84) := ⟨_, rfl⟩
    obtain ⟨g, hg⟩ : ∃ g, g = wr.heap.size := ⟨_, rfl⟩
    rw [← hW1, ← hg]
    have hb1 : Blk W1 g [.int .i64 0, .string ⟨#[]⟩, .int .i64 0, .int .i64 k, .int .i64 0] 84 := by rw [hW1, hg]; exact Blk.new wr _ _
    have hC1 : Chg [] wr W1 := by rw [hW1]; exact (Chg.refl _ _).alloc _
    have HG : Hid (g = wr.heap.size) := Lib.hid hg
    have HB1 := Lib.hid hb1
    have HC1 := Lib.hid hC1
    have HT1 := Lib.hid (hC1.blk HB.out (by simp))
    have d1 : W1.cell? ⟨bt, 0, none⟩ = some (.string sb) := (World.cell?_of_block (a := ⟨bt, 0, none⟩) (hC1.block bt l1 (by simp))).trans c1
    have d3 : W1.cell? ⟨ba, 0, none⟩ = some (atv bt bc) := (World.cell?_of_block (a := ⟨ba, 0, none⟩) (hC1.block ba l3 (by simp))).trans c3
    unfold atv at d3
    have ne1 : ¬ bt = g := by omega
    have ne1' : ¬ g = bt := by omega
    have ne2 : ¬ bc = g := by omega
    have ne3 : ¬ ba = g := by omega
    have ne3' : ¬ g = ba := by omega
    clear hW1 hg hb1 hC1 c1 c3 l1 l2 l3
    refine ⟨trivial, (fun h0 => by cases h0), ?_⟩
    refine (callsIn_wide.2 (at_list _ s (k : Int) k rfl bt bc sb HSB d1 HT1.out)).mono ?_
    rintro e W5 ⟨rfl, rfl⟩
    obtain ⟨c, hc⟩ : ∃ c, Lx.at' s k = c := ⟨_, rfl⟩
    have hc9 : c ≤ 8 := by rw [← hc]; exact Lx.at'_le s k
    have HFE := Lib.hid (Lx.from_eq s k hlt)
    have HTK := Lib.hid (Lx.tok_at s k hlt)
    rw [← Lx.at'_lt hlt, hc] at HFE HTK
    rw [hc]
    have HCc := Lib.hid hc
    clear hc
    dsimp only
    gi_step
    gi_step
    gi_step
    gi_step
    gi_cut [4] from 21 (fun i4 wc => ∃ (kd ln er nv : Nat), i4 = .int .i64 ((k + ln : Nat) : Int) ∧ Hid (c ≠ 1 ∧ c ≠ 2 ∧ Lx.tok (s.drop k) = (kd, ln, er) ∧ (Lx.mk k (s.drop k)).n = nv ∧ k + ln ≤ s.length) ∧
     Blk wc g [.int .i64 kd, .string ⟨#[]⟩, .int .i64 nv, .int .i64 k, .int .i64 er] 84 ∧ Chg [g] W5 wc)
    case first =>
     obtain rfl | rfl | rfl | rfl | rfl | rfl | rfl | rfl | rfl : c = 0 ∨ c = 1 ∨ c = 2 ∨ c = 3 ∨ c = 4 ∨ c = 5 ∨ c = 6 ∨ c = 7 ∨ c = 8 := by omega
     · have g4 := HB1.out.cell (i := 4) rfl
       have f4 := HB1.out.free 4
       gi_wp2
       gi_meet
       case rel => exact ⟨0, 0, 5, 0, vint (by omega), Lib.hid ⟨by decide, by decide, HTK.out, by rw [mk_n HTK.out]; rfl, hk⟩, HB1.out.set 4 _, (Chg.refl _ _).setCell _ _ (.inl (by simp))⟩
     · gi_wp2
       go_roundw
       case rel => exact ⟨k + 1, pre, vint (by omega), HLT.out, Lib.hid (by rw [hfr.out, HFE.out]; rfl), HJ.out _ _ _ HJ1.out HC1.out.grown0⟩
       case measure => simp [intOf]; omega
     · have HFE2 : Hid (Lx.from' s k = Lx.from' s (k + Lx.wl Lx.line (s.drop k))) := Lib.hid HFE.out
       gi_upto_region 9 with fail
       gi_loopw [4] (fun i wq => ∃ j : Nat, i = .int .i64 ((k + j : Nat) : Int) ∧ k + j ≤ s.length ∧ Hid (Lx.wl Lx.line (s.drop k) = j + Lx.wl Lx.line (s.drop (k + j))) ∧ wq = W5) (fun i _ => s.length - (intOf i).toNat)
       case atStart => exact ⟨0, rfl, hk, Lib.hid (by simp), rfl⟩
       case round =>
        obtain ⟨j, rfl, hj, hwl, rfl⟩ := hrel
        obtain ⟨m, hm⟩ : ∃ m, m = k + j := ⟨_, rfl⟩
        rw [← hm]
        have HM := Lib.hid hm
        rw [← hm] at hj hwl
        clear hm
        by_cases hm : m < s.length
        · have r1 : (m : Int) < (sb.size : Int) := by rw [HSZ.out]; omega
          have r0 : (0 : Int) ≤ (m : Int) := by omega
          gi_wp2
          · rename_i hx
            go_roundw
            case rel => exact ⟨j + 1, vint (by have := HM.out; omega), by have := HM.out; omega, wl_more hwl HM (line_yes HSB _ hm hx), trivial⟩
            case measure => simp [intOf]; omega
          · rename_i hx
            have hw0 := line_no HSB _ hm hx
            go_roundw
            case rel => exact ⟨m, pre, rfl, hj, Lib.hid (by rw [hfr.out, HFE2.out, hwl.out, hw0, Nat.add_zero, ← HM.out]), HJ.out _ _ _ HJ1.out HC1.out.grown0⟩
            case measure =>
             have hj0 : 0 < j := by
              have h9 := hwl.out
              rw [hw0, Nat.add_zero] at h9
              have h8 := line_pos2 hlt HCc.out
              omega
             have := HM.out
             simp [intOf]; omega
        · have r1 : ¬ (m : Int) < (sb.size : Int) := by rw [HSZ.out]; omega
          have hw0 := Lx.wl_end Lx.line s m (by omega)
          gi_wp2
          go_roundw
          case rel => exact ⟨m, pre, rfl, hj, Lib.hid (by rw [hfr.out, HFE2.out, hwl.out, hw0, Nat.add_zero, ← HM.out]), HJ.out _ _ _ HJ1.out HC1.out.grown0⟩
          case measure => simp [intOf]; omega
     · have g0 := HB1.out.cell (i := 0) rfl
       have f0 := HB1.out.free 0
       have g4 := HB1.out.cell (i := 4) rfl
       have f4 := HB1.out.free 4
       have HT3 : Hid (Lx.tok (s.drop k) = (1, Lx.wl Lx.word (s.drop k), if 24 < Lx.wl Lx.word (s.drop k) then 3 else 0)) := Lib.hid HTK.out
       clear HTK HFE
       gi_wp2
       refine ⟨trivial, (fun h0 => by cases h0), ?_⟩
       refine (callsIn_wide.2 (at_list _ s (k : Int) k rfl bt bc sb HSB d1 HT1.out)).mono ?_
       rintro e W6 ⟨rfl, rfl⟩
       gi_upto_region 13 with fail
       gi_loopw [4, 7] (fun i t7 wq => ∃ j : Nat, i = .int .i64 ((k + j : Nat) : Int) ∧ t7 = .int .u8 (Lx.at' s (k + j) : Nat) ∧ k + j ≤ s.length ∧ Hid (Lx.wl Lx.word (s.drop k) = j + Lx.wl Lx.word (s.drop (k + j))) ∧ wq = W6) (fun i _ _ => s.length - (intOf i).toNat)
       case atStart => exact ⟨0, rfl, rfl, hk, Lib.hid (by simp), rfl⟩
       case round =>
        obtain ⟨j, rfl, rfl, hj, hwl, rfl⟩ := hrel
        obtain ⟨m, hm⟩ : ∃ m, m = k + j := ⟨_, rfl⟩
        rw [← hm]
        have HM := Lib.hid hm
        rw [← hm] at hj hwl
        clear hm
        obtain ⟨d, hd⟩ : ∃ d, Lx.at' s m = d := ⟨_, rfl⟩
        rw [hd]
        by_cases hw : d = 3 ∨ d = 4 ∨ d = 5
        · have hm := (Lx.wl_word s m).2 (by rw [hd]; exact hw)
          have HMO : Hid (Lx.wl Lx.word (s.drop m) = Lx.wl Lx.word (s.drop (m + 1)) + 1) := Lib.hid ((Lx.wl_word s m).1.trans (if_pos (by rw [hd]; exact hw)))
          clear hd
          rcases hw with rfl | rfl | rfl
          · gi_wp2
            refine ⟨trivial, (fun h0 => by cases h0), ?_⟩
            refine (callsIn_wide.2 (at_list _ s ((m : Int) + 1) (m + 1) rfl bt bc sb HSB d1 HT1.out)).mono ?_
            rintro e W6 ⟨rfl, rfl⟩
            gi_wp2
            go_roundw
            case rel => exact ⟨j + 1, vint (by have := HM.out; omega), by rw [HM.out, Nat.add_assoc], by have := HM.out; omega, wl_more hwl HM HMO.out, trivial⟩
            case measure => simp [intOf]; omega
          · gi_wp2
            refine ⟨trivial, (fun h0 => by cases h0), ?_⟩
            refine (callsIn_wide.2 (at_list _ s ((m : Int) + 1) (m + 1) rfl bt bc sb HSB d1 HT1.out)).mono ?_
            rintro e W6 ⟨rfl, rfl⟩
            gi_wp2
            go_roundw
            case rel => exact ⟨j + 1, vint (by have := HM.out; omega), by rw [HM.out, Nat.add_assoc], by have := HM.out; omega, wl_more hwl HM HMO.out, trivial⟩
            case measure => simp [intOf]; omega
          · gi_wp2
            refine ⟨trivial, (fun h0 => by cases h0), ?_⟩
            refine (callsIn_wide.2 (at_list _ s ((m : Int) + 1) (m + 1) rfl bt bc sb HSB d1 HT1.out)).mono ?_
            rintro e W6 ⟨rfl, rfl⟩
            gi_wp2
            go_roundw
            case rel => exact ⟨j + 1, vint (by have := HM.out; omega), by rw [HM.out, Nat.add_assoc], by have := HM.out; omega, wl_more hwl HM HMO.out, trivial⟩
            case measure => simp [intOf]; omega
        · have hw0 : Lx.wl Lx.word (s.drop m) = 0 := (Lx.wl_word s m).1.trans (if_neg (by rw [hd]; exact hw))
          have HWJ : Hid (Lx.wl Lx.word (s.drop k) = j) := Lib.hid (by rw [hwl.out, hw0, Nat.add_zero])
          have n3 : ((d : Int) == 3) = false := beq_eq_false_iff_ne.2 (by omega)
          have n4 : ((d : Int) == 4) = false := beq_eq_false_iff_ne.2 (by omega)
          have n5 : ((d : Int) == 5) = false := beq_eq_false_iff_ne.2 (by omega)
          have e24 : (m : Int) - (k : Int) = (j : Int) := by have := HM.out; omega
          clear hw hw0 hd
          by_cases h24 : 24 < j
          · have h24i : (24 : Int) < (j : Int) := by omega
            gi_wp2
            gi_meet
            case rel => exact ⟨1, j, 3, 0, vint (by have := HM.out; omega), Lib.hid ⟨by decide, by decide, by rw [HT3.out, HWJ.out, if_pos h24], by rw [mk_n HT3.out]; rfl, by have := HM.out; omega⟩, (HB1.out.set 0 _).set 4 _, ((Chg.refl _ _).setCell _ _ (.inl (by simp))).setCell _ _ (.inl (by simp))⟩
          · have h24i : ¬ (24 : Int) < (j : Int) := by omega
            gi_wp2
            gi_meet
            case rel => exact ⟨1, j, 0, 0, vint (by have := HM.out; omega), Lib.hid ⟨by decide, by decide, by rw [HT3.out, HWJ.out, if_neg h24], by rw [mk_n HT3.out]; rfl, by have := HM.out; omega⟩, HB1.out.set 0 _, (Chg.refl _ _).setCell _ _ (.inl (by simp))⟩
     · have g0 := HB1.out.cell (i := 0) rfl
       have f0 := HB1.out.free 0
       have g2 := HB1.out.cell (i := 2) rfl
       have f2 := HB1.out.free 2
       have g4 := HB1.out.cell (i := 4) rfl
       have f4 := HB1.out.free 4
       have HT4 : Hid (Lx.tok (s.drop k) = (2, Lx.wl Lx.dig (s.drop k), if 10 < Lx.wl Lx.dig (s.drop k) ∨ Lx.at' s (k + Lx.wl Lx.dig (s.drop k)) = 3 ∨ Lx.at' s (k + Lx.wl Lx.dig (s.drop k)) = 5 then 6 else 0)) := Lib.hid HTK.out
       clear HTK HFE
       gi_upto_region 20 with fail
       gi_loopw [4] (fun i wq => ∃ j : Nat, i = .int .i64 ((k + j : Nat) : Int) ∧ k + j ≤ s.length ∧ Hid (Lx.wl Lx.dig (s.drop k) = j + Lx.wl Lx.dig (s.drop (k + j))) ∧ wq = W5) (fun i _ => s.length - (intOf i).toNat)
       case atStart => exact ⟨0, rfl, hk, Lib.hid (by simp), rfl⟩
       case round =>
        obtain ⟨j, rfl, hj, hwl, rfl⟩ := hrel
        obtain ⟨m, hm⟩ : ∃ m, m = k + j := ⟨_, rfl⟩
        rw [← hm]
        have HM := Lib.hid hm
        rw [← hm] at hj hwl
        clear hm
        gi_wp2
        refine ⟨trivial, (fun h0 => by cases h0), ?_⟩
        refine (callsIn_wide.2 (at_list _ s (m : Int) m rfl bt bc sb HSB d1 HT1.out)).mono ?_
        rintro e W6 ⟨rfl, rfl⟩
        obtain ⟨d, hd⟩ : ∃ d, Lx.at' s m = d := ⟨_, rfl⟩
        rw [hd]
        by_cases hw : d = 4
        · have hm := (Lx.wl_dig s m).2 (by rw [hd]; exact hw)
          have HMO : Hid (Lx.wl Lx.dig (s.drop m) = Lx.wl Lx.dig (s.drop (m + 1)) + 1) := Lib.hid ((Lx.wl_dig s m).1.trans (if_pos (by rw [hd]; exact hw)))
          clear hd
          subst hw
          gi_wp2
          refine ⟨⟨.int .i64 ((m : Int) + 1), _, _, _, _, _, _, ⟨j + 1, vint (by have := HM.out; omega), by have := HM.out; omega, wl_more hwl HM HMO.out, trivial⟩, rfl⟩, ?_⟩
          simp [intOf]; omega
        · have hw0 : Lx.wl Lx.dig (s.drop m) = 0 := (Lx.wl_dig s m).1.trans (if_neg (by rw [hd]; exact hw))
          have HWJ : Hid (Lx.wl Lx.dig (s.drop k) = j) := Lib.hid (by rw [hwl.out, hw0, Nat.add_zero])
          have hj0 : 0 < j := by
           have h9 := HWJ.out
           rw [(Lx.wl_dig s k).1, if_pos HCc.out] at h9
           omega
          have n4 : ((d : Int) == 4) = false := beq_eq_false_iff_ne.2 (by omega)
          have e10 : (m : Int) - (k : Int) = (j : Int) := by have := HM.out; omega
          have HD := Lib.hid hd
          have HDE : Hid (Lx.tok (s.drop k) = (2, j, if 10 < j ∨ d = 3 ∨ d = 5 then 6 else 0)) := Lib.hid (by
           rw [HT4.out, HWJ.out, ← HM.out, HD.out])
          clear hw hw0 hd
          by_cases h24 : 10 < j
          · have h24i : (10 : Int) < (j : Int) := by omega
            gi_wp2
            refine ⟨trivial, (fun h0 => by cases h0), ?_⟩
            refine (callsIn_wide.2 (at_list _ s (m : Int) m rfl bt bc sb HSB (by go_simp) ((HT1.out).other _ _ (by exact ne2)))).mono ?_
            rintro e W7 ⟨rfl, rfl⟩
            gi_wp2
            gi_meet
            case rel => exact ⟨2, j, 6, 0, vint (by have := HM.out; omega), Lib.hid ⟨by decide, by decide, HDE.out.trans (by rw [if_pos (Or.inl h24)]), by rw [mk_n (HDE.out.trans (by rw [if_pos (Or.inl h24)]))]; rfl, by have := HM.out; omega⟩, (HB1.out.set 0 _).set 4 _, ((Chg.refl _ _).setCell _ _ (.inl (by simp))).setCell _ _ (.inl (by simp))⟩
          · have h24i : ¬ (10 : Int) < (j : Int) := by omega
            gi_wp2
            refine ⟨trivial, (fun h0 => by cases h0), ?_⟩
            refine (callsIn_wide.2 (at_list _ s (m : Int) m rfl bt bc sb HSB (by go_simp) ((HT1.out).other _ _ (by exact ne2)))).mono ?_
            rintro e W7 ⟨rfl, rfl⟩
            rw [HD.out]
            by_cases h35 : d = 3 ∨ d = 5
            · have HR : Hid (Lx.tok (s.drop k) = (2, j, 6)) := Lib.hid (by rw [HDE.out, if_pos (.inr h35)])
              clear HDE HD HT4
              rcases h35 with rfl | rfl
              · gi_wp2
                gi_meet
                case rel => exact ⟨2, j, 6, 0, vint (by have := HM.out; omega), Lib.hid ⟨by decide, by decide, HR.out, by rw [mk_n HR.out]; rfl, by have := HM.out; omega⟩, (HB1.out.set 0 _).set 4 _, ((Chg.refl _ _).setCell _ _ (.inl (by simp))).setCell _ _ (.inl (by simp))⟩
              · gi_wp2
                gi_meet
                case rel => exact ⟨2, j, 6, 0, vint (by have := HM.out; omega), Lib.hid ⟨by decide, by decide, HR.out, by rw [mk_n HR.out]; rfl, by have := HM.out; omega⟩, (HB1.out.set 0 _).set 4 _, ((Chg.refl _ _).setCell _ _ (.inl (by simp))).setCell _ _ (.inl (by simp))⟩
            · have HR : Hid (Lx.tok (s.drop k) = (2, j, 0)) := Lib.hid (by rw [HDE.out, if_neg]; omega)
              have n3 : ((d : Int) == 3) = false := beq_eq_false_iff_ne.2 (by omega)
              have n5 : ((d : Int) == 5) = false := beq_eq_false_iff_ne.2 (by omega)
              clear HDE HD HT4 h35
              have s1 : (0 : Int) ≤ (k : Int) := by omega
              have s2 : (k : Int) ≤ (m : Int) := by have := HM.out; omega
              have s3 : (m : Int) ≤ (sb.size : Int) := by have := HSZ.out; omega
              gi_wp2
              refine ⟨trivial, (fun h0 => by cases h0), ?_⟩
              refine (callsIn_wide.2 (Tryd.strconv_Atoi (sb.extract k m) ((Lx.num ((s.drop k).take j) : Nat) : Int) ?hl ?hat _)).mono ?_
              case hl =>
               rw [HM.out, sb_cut HSB]
               show ((s.drop k).take j).length ≤ 18
               rw [List.length_take]
               omega
              case hat =>
               rw [HM.out, sb_cut HSB]
               refine atoi_num _ ?_ (fun c hc => ?_)
               · intro h9
                 have h8 := congrArg List.length h9
                 rw [List.length_take, List.length_drop] at h8
                 have := HLT.out
                 have := HM.out
                 simp at h8
                 omega
               · rw [← HWJ.out] at hc
                 have := wl_take _ _ hc
                 unfold Lx.dig at this
                 exact of_decide_eq_true this
              rintro e W8 ⟨rfl, t, hW8⟩
              obtain ⟨nu, hnu⟩ : ∃ nu, Lx.num ((s.drop k).take j) = nu := ⟨_, rfl⟩
              rw [hnu]
              have HNU := Lib.hid hnu
              have HC8 : Chg [] (W6.setCell ⟨g, 0, none⟩ (.int .i64 2)) W8 := by rw [hW8]; exact chg_bytes _ _ _
              have HB8 := Lib.hid (HC8.blk (HB1.out.set 0 (.int .i64 2)) (by simp))
              have y2 := HB8.out.cell (i := 2) rfl
              have z2 := HB8.out.free 2
              have HC9 : Hid (Chg [g] W6 W8) := Lib.hid (((Chg.refl [g] W6).setCell ⟨g, 0, none⟩ (.int .i64 2) (.inl (by simp))).trans HC8 (by simp))
              clear hW8 HC8 hnu
              gi_wp2
              gi_meet
              case rel => exact ⟨2, j, 0, nu, vint (by have := HM.out; omega), Lib.hid ⟨by decide, by decide, HR.out, by rw [mk_n HR.out, ← HNU.out]; rfl, by have := HM.out; omega⟩, HB8.out.set 2 _, HC9.out.setCell _ _ (.inl (by simp))⟩
     · have g4 := HB1.out.cell (i := 4) rfl
       have f4 := HB1.out.free 4
       gi_wp2
       gi_meet
       case rel => exact ⟨0, 0, 5, 0, vint (by omega), Lib.hid ⟨by decide, by decide, HTK.out, by rw [mk_n HTK.out]; rfl, hk⟩, HB1.out.set 4 _, (Chg.refl _ _).setCell _ _ (.inl (by simp))⟩
     · have HR : Hid (Lx.tok (s.drop k) = (3, 1, 0)) := Lib.hid HTK.out
       clear HTK HFE
       have g0 := HB1.out.cell (i := 0) rfl
       have f0 := HB1.out.free 0
       gi_wp2
       refine ⟨trivial, (fun h0 => by cases h0), ?_⟩
       refine (callsIn_wide.2 (at_list _ s (k : Int) k rfl bt bc sb HSB (by go_simp) ((HT1.out).other _ _ (by exact ne2)))).mono ?_
       rintro e W7 ⟨rfl, rfl⟩
       rw [HCc.out]
       gi_wp2
       gi_meet
       case rel => exact ⟨3, 1, 0, 0, vint (by omega), Lib.hid ⟨by decide, by decide, HR.out, by rw [mk_n HR.out]; rfl, HLT.out⟩, HB1.out.set 0 _, (Chg.refl _ _).setCell _ _ (.inl (by simp))⟩
     · have HR : Hid (Lx.tok (s.drop k) = if s[k + 1]? = some 61 then (3, 2, 0) else (3, 1, 0)) := Lib.hid (by rw [HTK.out]; simp)
       clear HTK HFE
       have g0 := HB1.out.cell (i := 0) rfl
       have f0 := HB1.out.free 0
       gi_wp2
       refine ⟨trivial, (fun h0 => by cases h0), ?_⟩
       refine (callsIn_wide.2 (at_list _ s (k : Int) k rfl bt bc sb HSB (by go_simp) ((HT1.out).other _ _ (by exact ne2)))).mono ?_
       rintro e W7 ⟨rfl, rfl⟩
       rw [HCc.out]
       have r0 : (0 : Int) ≤ (k : Int) + 1 := by omega
       by_cases h1 : k + 1 < s.length
       · have r1 : (k : Int) + 1 < (sb.size : Int) := by rw [HSZ.out]; omega
         gi_wp2
         · rename_i hx
           have HR1 : Hid (Lx.tok (s.drop k) = (3, 2, 0)) := Lib.hid (by rw [HR.out, if_pos ((eq61 HSB _ _ hx).2 rfl)])
           gi_meet
           case rel => exact ⟨3, 2, 0, 0, vint (by omega), Lib.hid ⟨by decide, by decide, HR1.out, by rw [mk_n HR1.out]; rfl, by omega⟩, HB1.out.set 0 _, (Chg.refl _ _).setCell _ _ (.inl (by simp))⟩
         · rename_i hx
           have HR1 : Hid (Lx.tok (s.drop k) = (3, 1, 0)) := Lib.hid (by rw [HR.out, if_neg (fun h9 => by have := (eq61 HSB _ _ hx).1 h9; cases this)])
           gi_meet
           case rel => exact ⟨3, 1, 0, 0, vint (by omega), Lib.hid ⟨by decide, by decide, HR1.out, by rw [mk_n HR1.out]; rfl, HLT.out⟩, HB1.out.set 0 _, (Chg.refl _ _).setCell _ _ (.inl (by simp))⟩
       · have r1 : ¬ (k : Int) + 1 < (sb.size : Int) := by rw [HSZ.out]; omega
         have HR1 : Hid (Lx.tok (s.drop k) = (3, 1, 0)) := Lib.hid (by rw [HR.out, List.getElem?_eq_none (by omega)]; rfl)
         gi_wp2
         gi_meet
         case rel => exact ⟨3, 1, 0, 0, vint (by omega), Lib.hid ⟨by decide, by decide, HR1.out, by rw [mk_n HR1.out]; rfl, HLT.out⟩, HB1.out.set 0 _, (Chg.refl _ _).setCell _ _ (.inl (by simp))⟩
     · have HR : Hid (Lx.tok (s.drop k) = if s[k + 1]? = some 61 then (3, 2, 0) else (3, 1, 5)) := Lib.hid (by rw [HTK.out]; simp)
       clear HTK HFE
       have g0 := HB1.out.cell (i := 0) rfl
       have f0 := HB1.out.free 0
       have g4 := HB1.out.cell (i := 4) rfl
       have f4 := HB1.out.free 4
       gi_wp2
       refine ⟨trivial, (fun h0 => by cases h0), ?_⟩
       refine (callsIn_wide.2 (at_list _ s (k : Int) k rfl bt bc sb HSB (by go_simp) ((HT1.out).other _ _ (by exact ne2)))).mono ?_
       rintro e W7 ⟨rfl, rfl⟩
       rw [HCc.out]
       have r0 : (0 : Int) ≤ (k : Int) + 1 := by omega
       by_cases h1 : k + 1 < s.length
       · have r1 : (k : Int) + 1 < (sb.size : Int) := by rw [HSZ.out]; omega
         gi_wp2
         · rename_i hx
           have HR1 : Hid (Lx.tok (s.drop k) = (3, 2, 0)) := Lib.hid (by rw [HR.out, if_pos ((eq61 HSB _ _ hx).2 rfl)])
           gi_meet
           case rel => exact ⟨3, 2, 0, 0, vint (by omega), Lib.hid ⟨by decide, by decide, HR1.out, by rw [mk_n HR1.out]; rfl, by omega⟩, HB1.out.set 0 _, (Chg.refl _ _).setCell _ _ (.inl (by simp))⟩
         · rename_i hx
           have HR1 : Hid (Lx.tok (s.drop k) = (3, 1, 5)) := Lib.hid (by rw [HR.out, if_neg (fun h9 => by have := (eq61 HSB _ _ hx).1 h9; cases this)])
           gi_meet
           case rel => exact ⟨3, 1, 5, 0, vint (by omega), Lib.hid ⟨by decide, by decide, HR1.out, by rw [mk_n HR1.out]; rfl, HLT.out⟩, (HB1.out.set 0 _).set 4 _, ((Chg.refl _ _).setCell _ _ (.inl (by simp))).setCell _ _ (.inl (by simp))⟩
       · have r1 : ¬ (k : Int) + 1 < (sb.size : Int) := by rw [HSZ.out]; omega
         have HR1 : Hid (Lx.tok (s.drop k) = (3, 1, 5)) := Lib.hid (by rw [HR.out, List.getElem?_eq_none (by omega)]; rfl)
         gi_wp2
         gi_meet
         case rel => exact ⟨3, 1, 5, 0, vint (by omega), Lib.hid ⟨by decide, by decide, HR1.out, by rw [mk_n HR1.out]; rfl, HLT.out⟩, (HB1.out.set 0 _).set 4 _, ((Chg.refl _ _).setCell _ _ (.inl (by simp))).setCell _ _ (.inl (by simp))⟩
    case rest =>
     obtain ⟨kd, ln, er, nv, rfl, hH, hBg, hCg⟩ := hcut
     obtain ⟨m, hm⟩ : ∃ m, m = k + ln := ⟨_, rfl⟩
     rw [← hm]
     have HM := Lib.hid hm
     have hms : m ≤ s.length := by rw [hm]; exact hH.out.2.2.2.2
     clear hm
     have d1' : wc.cell? ⟨bt, 0, none⟩ = some (.string sb) := (World.cell?_of_block (a := ⟨bt, 0, none⟩) (hCg.block bt (World.block_lt_of_cell? _ _ d1) (by simp [ne1]))).trans d1
     have g0 := hBg.cell (i := 0) rfl
     have g1 := hBg.cell (i := 1) rfl
     have f1 := hBg.free 1
     have g2 := hBg.cell (i := 2) rfl
     have g3 := hBg.cell (i := 3) rfl
     have g4 := hBg.cell (i := 4) rfl
     have HBg := Lib.hid hBg
     have HCg : Hid (Chg [] wr wc) := Lib.hid (HC1.out.trans hCg (fun x hx => .inr (by simp at hx; rw [hx, HG.out]; exact Nat.le_refl _)))
     have s1 : (0 : Int) ≤ (k : Int) := by omega
     have s2 : (k : Int) ≤ (m : Int) := by have := HM.out; omega
     have s3 : (m : Int) ≤ (sb.size : Int) := by rw [HSZ.out]; omega
     clear hBg hCg d1 HT1 HC1 HB1
     obtain ⟨x, hx⟩ : ∃ x : Lx.Tk × Nat, x = (Lx.mk k (s.drop k), er) := ⟨_, rfl⟩
     have HX : Hid (Lx.from' s k = x :: (if er ≠ 0 then [] else Lx.from' s m)) := Lib.hid (by
      rw [HFE.out, if_neg hH.out.1, if_neg hH.out.2.1, hH.out.2.2.1, hx, HM.out]
      by_cases h0 : er = 0
      · rw [if_neg (by simpa using h0), if_neg (by simpa using h0), h0]
      · rw [if_pos h0, if_pos h0])
     have HXE : Hid (fnd x = .agg #[.int .i64 kd, .string (sb.extract k m), .int .i64 nv, .int .i64 k, .int .i64 er]) := Lib.hid (by
      rw [hx, HM.out, sb_cut HSB]
      unfold fnd
      simp only [hH.out.2.2.2.1]
      unfold Lx.mk
      rw [hH.out.2.2.1])
     have HLN : Hid (er = 0 → 0 < ln) := Lib.hid (fun h0 => by
      have h9 := hH.out.2.2.1
      rw [List.drop_eq_getElem_cons HLT.out] at h9
      have h8 := Lx.tok_pos (c := s[k]'HLT.out) (r := s.drop (k + 1)) (by rw [h9]; exact h0)
      rw [h9] at h8
      exact h8.1)
     clear hx HFE HTK hH
     gi_upto_region 38 with fail
     obtain ⟨W9, hW9⟩ : ∃ W9, W9 = wc.setCell ⟨g, 1, none⟩ (.string (sb.extract k m)) := ⟨_, rfl⟩
     rw [← hW9]
     have hB9 : Blk W9 g [.int .i64 kd, .string (sb.extract k m), .int .i64 nv, .int .i64 k, .int .i64 er] 84 := by rw [hW9]; exact HBg.out.set 1 _
     have hC9 : Chg [] wr W9 := by rw [hW9]; exact HCg.out.setCell _ _ (.inr (by rw [← HG.out]; exact Nat.le_refl _))
     have hl9 : g < W9.heap.size := hB9.lt
     obtain ⟨fn, tmps, assign, body, hy, hR⟩ := HY.out pre x W9 (HJ.out _ _ _ HJ1.out hC9.grown0) (by rw [hfr.out, HX.out]; exact ⟨if er ≠ 0 then [] else Lx.from' s m, by simp⟩)
     rw [HXE.out] at hy
     have HC9 := Lib.hid hC9
     have HB9 := Lib.hid hB9
     have p0 := hB9.cell (i := 0) rfl
     have p1 := hB9.cell (i := 1) rfl
     have p2 := hB9.cell (i := 2) rfl
     have p3 := hB9.cell (i := 3) rfl
     have p4 := hB9.cell (i := 4) rfl
     have hKK := fun B hk => HK.out pre wr W9 B g HJ1.out hC9.grown0 (by rw [HG.out]; exact Nat.le_refl _) hl9 ⟨0, _, p0⟩ hk
     have HKK := Lib.hid hKK
     clear hB9 hC9 hW9 HBg HCg g0 g1 g2 g3 g4 f1 d1' hKK hl9
     gi_wp2
     refine ⟨(fun h0 => by cases h0), ?_⟩
     refine hR.mono ?_
     rintro e W3 (⟨rfl, hJ3, hk3⟩ | ⟨rfl, hJx3⟩)
     · have e4 : W3.cell? ⟨g, 4, none⟩ = some (.int .i64 er) := (World.cell?_of_block (a := ⟨g, 4, none⟩) (HKK.out _ hk3)).trans p4
       have HJ3 := Lib.hid hJ3
       clear hJ3 hk3 hy hR p0 p1 p2 p3 p4
       by_cases h0 : er = 0
       · subst h0
         have hl0 := HLN.out rfl
         gi_wp2
         go_roundw
         case rel => exact ⟨m, pre ++ [x], rfl, hms, Lib.hid (by rw [hfr.out, HX.out, if_neg (by simp)]; simp), HJ3.out⟩
         case measure => have := HM.out; simp [intOf]; omega
       · have n0 : ((er : Int) != 0) = true := bne_iff_ne.2 (by omega)
         gi_wp2
         simp only [Exit.inBlock, Exit.then, Exit.noGoto]
         refine bodyPost_ret (results_none rfl _ _ _) rfl ?_
         refine ⟨⟨_, rfl⟩, .inl ?_⟩
         rw [hfr.out, HX.out, if_pos h0]
         exact HJ3.out
     · gi_wp2
       simp only [Exit.inBlock, Exit.then, Exit.noGoto]
       refine bodyPost_ret (results_none rfl _ _ _) rfl ?_
       exact ⟨⟨_, rfl⟩, .inr ⟨_, by rw [hfr.out, HX.out]; exact ⟨if er ≠ 0 then [] else Lx.from' s m, by simp⟩, hJx3⟩⟩
  · have q1 : ¬ (k : Int) < (sb.size : Int) := by rw [HSZ.out]; omega
    have HKE : Hid (k = s.length) := Lib.hid (by omega)
    gi_wp2
    go_end0
    refine ⟨⟨_, rfl⟩, .inl ?_⟩
    rw [hfr.out, HKE.out, Lx.from_end s _ (Nat.le_refl _), List.append_nil]
    exact HJ1.out
end Go.Proofs.YtocadlcglgpdcaaDoor
