/-
 Layer 6: the contract of classes.
-/
import Derived.Test.YtocadlcglgpdcaaDoorLxB
import Derived.Test.YtocadlcglgpdcaaDoorShelf
import Derived.Deep.MidRow
import Derived.OwnWalk
import Derived.Deep.DeepCutAuto
import Derived.Deep.CutBlock
namespace Go.Proofs.YtocadlcglgpdcaaDoor
set_option linter.unusedVariables false
set_option linter.unusedSimpArgs false
open Go Go.RowKit
theorem tab_under : Tryd.prog.underlying 96 = some (.array 256 5) := by kernel_rfl
theorem tab_size : (Tryd.prog.info? 96).map (·.size) = some 256 := by kernel_rfl
theorem tab_one : Lx.tab.toArray.all (·.oneCell') = true := all_oneCell_toArray (fun v hv => by
 obtain ⟨n, _, rfl⟩ := List.mem_map.1 hv
 rfl)
attribute [local irreducible] Lx.tab0 Lx.tab Lx.cl0
theorem ib_x (k : Nat) (w : World) (s : ByteArray) (cs : List UInt8) (x : Int) (hs : s.data.toList = cs) (hx : x = Lib.indexByte cs k.toUInt8) :
 Calls Tryd.prog 60 #[.string s, .int .u8 (k : Int)] w fun e w' => e = .returned (.int .i64 x) ∧ w' = w := by
 have h := Tryd.strings_IndexByte s (k : Int) w
 rw [hs, Int.toNat_natCast, ← hx] at h
 exact h
set_option maxRecDepth 100000 in
set_option maxHeartbeats 2000000 in
theorem classes_spec (w : World) : Calls Tryd.prog 42 #[] w fun e w' => e = .returned (.agg Lx.tab.toArray) ∧ Chg [] w w' := by
 obtain ⟨B, hB⟩ : ∃ B, B = w.heap.size := ⟨_, rfl⟩
 have HBB := Lib.hid hB
 go_enter Tryd.func42, Tryd.ntmps42
 go_upto_region 2 with (fail)
 go_cut [4] (fun s4 wx => s4 = .int .i64 0 ∧ Blk wx w.heap.size (Lx.tab0 0) 96 ∧ Blk wx (w.heap.size + 1) (Lx.tab0 0) 96 ∧ Chg [] w wx)
 case first =>
  go_wp2_with fail
  go_meet
  rw [Lx.tab0_zero]
  refine ⟨rfl, (Blk.new w _ _).alloc _, ?_, ((Chg.refl _ _).alloc _).alloc _⟩
  have h := Blk.new (w.alloc (.cells (List.replicate 256 (Value.int .u8 0)).toArray 96)) (List.replicate 256 (Value.int .u8 0)) 96
  rw [World.size_alloc] at h
  exact h
 case rest =>
  obtain ⟨rfl, hb0, hb1, hc0⟩ := hcut
  rw [← hB] at hb0 hb1 ⊢
  have HB0 := Lib.hid hb0
  have HB1 := Lib.hid hb1
  have HC0 := Lib.hid hc0
  clear hb0 hb1 hc0 hB
  go_wp2_with fail
  go_loopw [4] (fun i wr => ∃ k : Nat, k ≤ 256 ∧ i = .int .i64 (k : Int) ∧ Blk wr B (Lx.tab0 0) 96 ∧ Blk wr (B + 1) (Lx.tab0 k) 96 ∧ Chg [] w wr) (fun i _ => 256 - (intOf i).toNat)
  case atStart => exact ⟨0, by omega, rfl, HB0.out, HB1.out, HC0.out⟩
  case round =>
   obtain ⟨k, hk, rfl, hb0, hb1, hc⟩ := hrel
   have HR0 := Lib.hid hb0
   have HR1 := Lib.hid hb1
   have HRC := Lib.hid hc
   clear hb0 hb1 hc HB0 HB1 HC0
   by_cases hk6 : k < 256
   · have hk0 : (0 : Int) ≤ (k : Int) := by omega
     have hk1 : (k : Int) < 256 := by omega
     have hw8 : IntKind.u8.wrap (k : Int) = (k : Int) := by
      show (k : Int) % 256 = _
      omega
     obtain ⟨old, hold⟩ : ∃ old, (Lx.tab0 k)[k]? = some old := ⟨(Lx.tab0 k)[k]'(by rw [Lx.tab0_len]; exact hk6), by simp⟩
     have cold := HR1.out.cell hold
     have fold := HR1.out.free k
     have lB := HR1.out.lt
     have HFIN : Hid (∀ c : Nat, Lx.cl0 k = c → Blk (wr.setCell ⟨B + 1, k, none⟩ (.int .u8 (c : Int))) B (Lx.tab0 0) 96 ∧ Blk (wr.setCell ⟨B + 1, k, none⟩ (.int .u8 (c : Int))) (B + 1) (Lx.tab0 (k + 1)) 96 ∧ Chg [] w (wr.setCell ⟨B + 1, k, none⟩ (.int .u8 (c : Int)))) := Lib.hid (fun c hc => by
      refine ⟨HR0.out.other _ _ (by simp), ?_, HRC.out.setCell _ _ (.inr (by rw [← HBB.out]; simp))⟩
      rw [← Lx.tab0_set k hk6, hc]
      exact HR1.out.set k _)
     clear hold
     by_cases h1 : 97 ≤ k ∧ k ≤ 122
     · have h1a : (97 : Int) ≤ (k : Int) := by omega
       have h1b : (k : Int) ≤ 122 := by omega
       have hc := Lx.cl_letter k hk6 (.inl h1)
       have HF := Lib.hid (HFIN.out 3 hc)
       clear h1 hc
       go_wp2_with fail
       exact lx_round hk6 HF.out
     · by_cases h2 : 65 ≤ k ∧ k ≤ 90
       · have h1a : ¬ (97 : Int) ≤ (k : Int) := by omega
         have h2a : (65 : Int) ≤ (k : Int) := by omega
         have h2b : (k : Int) ≤ 90 := by omega
         have hc := Lx.cl_letter k hk6 (.inr h2)
         have HF := Lib.hid (HFIN.out 3 hc)
         clear h1 h2 hc
         go_wp2_with fail
         exact lx_round hk6 HF.out
       · by_cases h3 : 48 ≤ k ∧ k ≤ 57
         · have h1a : ¬ (97 : Int) ≤ (k : Int) := by omega
           have h2a : ¬ (65 : Int) ≤ (k : Int) := by omega
           have h3a : (48 : Int) ≤ (k : Int) := by omega
           have h3b : (k : Int) ≤ 57 := by omega
           have hc := Lx.cl_digit k hk6 h3.1 h3.2
           have HF := Lib.hid (HFIN.out 4 hc)
           clear h1 h2 h3 hc
           go_wp2_with fail
           exact lx_round hk6 HF.out
         · have H123 := Lib.hid (And.intro h1 (And.intro h2 h3))
           obtain ⟨x1, hx1⟩ : ∃ x : Int, x = Lib.indexByte [32, 9, 10] k.toUInt8 := ⟨_, rfl⟩
           obtain ⟨x2, hx2⟩ : ∃ x : Int, x = Lib.indexByte [59, 44, 46, 58, 40, 41, 123, 125, 61, 43, 45, 47] k.toUInt8 := ⟨_, rfl⟩
           have X1 := Lib.hid hx1
           have X2 := Lib.hid hx2
           clear hx1 hx2
           by_cases g0 : k < 48
           · skip
             have q0 : ¬ (97 : Int) ≤ (k : Int) := by omega
             have q1 : ¬ (65 : Int) ≤ (k : Int) := by omega
             have q2 : ¬ (48 : Int) ≤ (k : Int) := by omega
             clear h1 h2 h3 g0
             by_cases hb : k = 32 ∨ k = 9 ∨ k = 10
             · have hI : (0 : Int) ≤ x1 := by rw [X1.out]; exact (Lx.ix_blank k hk6).2 hb
               have HF := Lib.hid (HFIN.out 1 (Lx.cl_blank k hk6 hb))
               clear hb
               go_wp2_with (go_at_call 60; first
                | refine (ib_x k _ _ [32, 9, 10] x1 rfl X1.out).mono ?_; rintro e w1 ⟨rfl, rfl⟩
                | refine (ib_x k _ _ [59, 44, 46, 58, 40, 41, 123, 125, 61, 43, 45, 47] x2 rfl X2.out).mono ?_; rintro e w1 ⟨rfl, rfl⟩)
               exact lx_round hk6 HF.out
             · have hI : ¬ (0 : Int) ≤ x1 := by rw [X1.out]; exact fun h => hb ((Lx.ix_blank k hk6).1 h)
               by_cases hs : k ∈ ([59, 44, 46, 58, 40, 41, 123, 125, 61, 43, 45, 47] : List Nat)
               · have hJ : (0 : Int) ≤ x2 := by rw [X2.out]; exact (Lx.ix_sym k hk6).2 hs
                 have HF := Lib.hid (HFIN.out 6 (Lx.cl_sym k hk6 hs))
                 clear hb hs
                 go_wp2_with (go_at_call 60; first
                  | refine (ib_x k _ _ [32, 9, 10] x1 rfl X1.out).mono ?_; rintro e w1 ⟨rfl, rfl⟩
                  | refine (ib_x k _ _ [59, 44, 46, 58, 40, 41, 123, 125, 61, 43, 45, 47] x2 rfl X2.out).mono ?_; rintro e w1 ⟨rfl, rfl⟩)
                 exact lx_round hk6 HF.out
               · have hJ : ¬ (0 : Int) ≤ x2 := by rw [X2.out]; exact fun h => hs ((Lx.ix_sym k hk6).1 h)
                 by_cases hp : k = 60
                 · have hP : ((k : Int) == (60 : Int)) = true := by simp only [beq_iff_eq]; omega
                   have HF := Lib.hid (HFIN.out 7 (Lx.cl_pre k hk6 (.inl hp)))
                   clear hb hs hp
                   go_wp2_with (go_at_call 60; first
                    | refine (ib_x k _ _ [32, 9, 10] x1 rfl X1.out).mono ?_; rintro e w1 ⟨rfl, rfl⟩
                    | refine (ib_x k _ _ [59, 44, 46, 58, 40, 41, 123, 125, 61, 43, 45, 47] x2 rfl X2.out).mono ?_; rintro e w1 ⟨rfl, rfl⟩)
                   exact lx_round hk6 HF.out
                 · have hP : ((k : Int) == (60 : Int)) = false := by simp only [beq_eq_false_iff_ne]; omega
                   by_cases hq : k = 62
                   · have hQ : ((k : Int) == (62 : Int)) = true := by simp only [beq_iff_eq]; omega
                     have HF := Lib.hid (HFIN.out 7 (Lx.cl_pre k hk6 (.inr hq)))
                     clear hb hs hp hq
                     go_wp2_with (go_at_call 60; first
                      | refine (ib_x k _ _ [32, 9, 10] x1 rfl X1.out).mono ?_; rintro e w1 ⟨rfl, rfl⟩
                      | refine (ib_x k _ _ [59, 44, 46, 58, 40, 41, 123, 125, 61, 43, 45, 47] x2 rfl X2.out).mono ?_; rintro e w1 ⟨rfl, rfl⟩)
                     exact lx_round hk6 HF.out
                   · have hQ : ((k : Int) == (62 : Int)) = false := by simp only [beq_eq_false_iff_ne]; omega
                     have hc := Lx.cl_other k hk6 H123.out.1 H123.out.2.1 H123.out.2.2 hb hs (by omega)
                     have HF := Lib.hid (And.intro HR0.out (And.intro ((Lx.tab0_same k hk6 hc) ▸ HR1.out) HRC.out))
                     clear hb hs hp hq hc
                     go_wp2_with (go_at_call 60; first
                      | refine (ib_x k _ _ [32, 9, 10] x1 rfl X1.out).mono ?_; rintro e w1 ⟨rfl, rfl⟩
                      | refine (ib_x k _ _ [59, 44, 46, 58, 40, 41, 123, 125, 61, 43, 45, 47] x2 rfl X2.out).mono ?_; rintro e w1 ⟨rfl, rfl⟩)
                     exact lx_round hk6 HF.out
           · skip
             by_cases g1 : k < 65
             · skip
               have q0 : ¬ (97 : Int) ≤ (k : Int) := by omega
               have q1 : ¬ (65 : Int) ≤ (k : Int) := by omega
               have q2 : (48 : Int) ≤ (k : Int) := by omega
               have q3 : ¬ (k : Int) ≤ 57 := by omega
               clear h1 h2 h3 g0 g1
               by_cases hb : k = 32 ∨ k = 9 ∨ k = 10
               · have hI : (0 : Int) ≤ x1 := by rw [X1.out]; exact (Lx.ix_blank k hk6).2 hb
                 have HF := Lib.hid (HFIN.out 1 (Lx.cl_blank k hk6 hb))
                 clear hb
                 go_wp2_with (go_at_call 60; first
                  | refine (ib_x k _ _ [32, 9, 10] x1 rfl X1.out).mono ?_; rintro e w1 ⟨rfl, rfl⟩
                  | refine (ib_x k _ _ [59, 44, 46, 58, 40, 41, 123, 125, 61, 43, 45, 47] x2 rfl X2.out).mono ?_; rintro e w1 ⟨rfl, rfl⟩)
                 exact lx_round hk6 HF.out
               · have hI : ¬ (0 : Int) ≤ x1 := by rw [X1.out]; exact fun h => hb ((Lx.ix_blank k hk6).1 h)
                 by_cases hs : k ∈ ([59, 44, 46, 58, 40, 41, 123, 125, 61, 43, 45, 47] : List Nat)
                 · have hJ : (0 : Int) ≤ x2 := by rw [X2.out]; exact (Lx.ix_sym k hk6).2 hs
                   have HF := Lib.hid (HFIN.out 6 (Lx.cl_sym k hk6 hs))
                   clear hb hs
                   go_wp2_with (go_at_call 60; first
                    | refine (ib_x k _ _ [32, 9, 10] x1 rfl X1.out).mono ?_; rintro e w1 ⟨rfl, rfl⟩
                    | refine (ib_x k _ _ [59, 44, 46, 58, 40, 41, 123, 125, 61, 43, 45, 47] x2 rfl X2.out).mono ?_; rintro e w1 ⟨rfl, rfl⟩)
                   exact lx_round hk6 HF.out
                 · have hJ : ¬ (0 : Int) ≤ x2 := by rw [X2.out]; exact fun h => hs ((Lx.ix_sym k hk6).1 h)
                   by_cases hp : k = 60
                   · have hP : ((k : Int) == (60 : Int)) = true := by simp only [beq_iff_eq]; omega
                     have HF := Lib.hid (HFIN.out 7 (Lx.cl_pre k hk6 (.inl hp)))
                     clear hb hs hp
                     go_wp2_with (go_at_call 60; first
                      | refine (ib_x k _ _ [32, 9, 10] x1 rfl X1.out).mono ?_; rintro e w1 ⟨rfl, rfl⟩
                      | refine (ib_x k _ _ [59, 44, 46, 58, 40, 41, 123, 125, 61, 43, 45, 47] x2 rfl X2.out).mono ?_; rintro e w1 ⟨rfl, rfl⟩)
                     exact lx_round hk6 HF.out
                   · have hP : ((k : Int) == (60 : Int)) = false := by simp only [beq_eq_false_iff_ne]; omega
                     by_cases hq : k = 62
                     · have hQ : ((k : Int) == (62 : Int)) = true := by simp only [beq_iff_eq]; omega
                       have HF := Lib.hid (HFIN.out 7 (Lx.cl_pre k hk6 (.inr hq)))
                       clear hb hs hp hq
                       go_wp2_with (go_at_call 60; first
                        | refine (ib_x k _ _ [32, 9, 10] x1 rfl X1.out).mono ?_; rintro e w1 ⟨rfl, rfl⟩
                        | refine (ib_x k _ _ [59, 44, 46, 58, 40, 41, 123, 125, 61, 43, 45, 47] x2 rfl X2.out).mono ?_; rintro e w1 ⟨rfl, rfl⟩)
                       exact lx_round hk6 HF.out
                     · have hQ : ((k : Int) == (62 : Int)) = false := by simp only [beq_eq_false_iff_ne]; omega
                       have hc := Lx.cl_other k hk6 H123.out.1 H123.out.2.1 H123.out.2.2 hb hs (by omega)
                       have HF := Lib.hid (And.intro HR0.out (And.intro ((Lx.tab0_same k hk6 hc) ▸ HR1.out) HRC.out))
                       clear hb hs hp hq hc
                       go_wp2_with (go_at_call 60; first
                        | refine (ib_x k _ _ [32, 9, 10] x1 rfl X1.out).mono ?_; rintro e w1 ⟨rfl, rfl⟩
                        | refine (ib_x k _ _ [59, 44, 46, 58, 40, 41, 123, 125, 61, 43, 45, 47] x2 rfl X2.out).mono ?_; rintro e w1 ⟨rfl, rfl⟩)
                       exact lx_round hk6 HF.out
             · skip
               by_cases g2 : k < 97
               · skip
                 have q0 : ¬ (97 : Int) ≤ (k : Int) := by omega
                 have q1 : (65 : Int) ≤ (k : Int) := by omega
                 have q2 : ¬ (k : Int) ≤ 90 := by omega
                 have q3 : (48 : Int) ≤ (k : Int) := by omega
                 have q4 : ¬ (k : Int) ≤ 57 := by omega
                 clear h1 h2 h3 g0 g1 g2
                 by_cases hb : k = 32 ∨ k = 9 ∨ k = 10
                 · have hI : (0 : Int) ≤ x1 := by rw [X1.out]; exact (Lx.ix_blank k hk6).2 hb
                   have HF := Lib.hid (HFIN.out 1 (Lx.cl_blank k hk6 hb))
                   clear hb
                   go_wp2_with (go_at_call 60; first
                    | refine (ib_x k _ _ [32, 9, 10] x1 rfl X1.out).mono ?_; rintro e w1 ⟨rfl, rfl⟩
                    | refine (ib_x k _ _ [59, 44, 46, 58, 40, 41, 123, 125, 61, 43, 45, 47] x2 rfl X2.out).mono ?_; rintro e w1 ⟨rfl, rfl⟩)
                   exact lx_round hk6 HF.out
                 · have hI : ¬ (0 : Int) ≤ x1 := by rw [X1.out]; exact fun h => hb ((Lx.ix_blank k hk6).1 h)
                   by_cases hs : k ∈ ([59, 44, 46, 58, 40, 41, 123, 125, 61, 43, 45, 47] : List Nat)
                   · have hJ : (0 : Int) ≤ x2 := by rw [X2.out]; exact (Lx.ix_sym k hk6).2 hs
                     have HF := Lib.hid (HFIN.out 6 (Lx.cl_sym k hk6 hs))
                     clear hb hs
                     go_wp2_with (go_at_call 60; first
                      | refine (ib_x k _ _ [32, 9, 10] x1 rfl X1.out).mono ?_; rintro e w1 ⟨rfl, rfl⟩
                      | refine (ib_x k _ _ [59, 44, 46, 58, 40, 41, 123, 125, 61, 43, 45, 47] x2 rfl X2.out).mono ?_; rintro e w1 ⟨rfl, rfl⟩)
                     exact lx_round hk6 HF.out
                   · have hJ : ¬ (0 : Int) ≤ x2 := by rw [X2.out]; exact fun h => hs ((Lx.ix_sym k hk6).1 h)
                     by_cases hp : k = 60
                     · have hP : ((k : Int) == (60 : Int)) = true := by simp only [beq_iff_eq]; omega
                       have HF := Lib.hid (HFIN.out 7 (Lx.cl_pre k hk6 (.inl hp)))
                       clear hb hs hp
                       go_wp2_with (go_at_call 60; first
                        | refine (ib_x k _ _ [32, 9, 10] x1 rfl X1.out).mono ?_; rintro e w1 ⟨rfl, rfl⟩
                        | refine (ib_x k _ _ [59, 44, 46, 58, 40, 41, 123, 125, 61, 43, 45, 47] x2 rfl X2.out).mono ?_; rintro e w1 ⟨rfl, rfl⟩)
                       exact lx_round hk6 HF.out
                     · have hP : ((k : Int) == (60 : Int)) = false := by simp only [beq_eq_false_iff_ne]; omega
                       by_cases hq : k = 62
                       · have hQ : ((k : Int) == (62 : Int)) = true := by simp only [beq_iff_eq]; omega
                         have HF := Lib.hid (HFIN.out 7 (Lx.cl_pre k hk6 (.inr hq)))
                         clear hb hs hp hq
                         go_wp2_with (go_at_call 60; first
                          | refine (ib_x k _ _ [32, 9, 10] x1 rfl X1.out).mono ?_; rintro e w1 ⟨rfl, rfl⟩
                          | refine (ib_x k _ _ [59, 44, 46, 58, 40, 41, 123, 125, 61, 43, 45, 47] x2 rfl X2.out).mono ?_; rintro e w1 ⟨rfl, rfl⟩)
                         exact lx_round hk6 HF.out
                       · have hQ : ((k : Int) == (62 : Int)) = false := by simp only [beq_eq_false_iff_ne]; omega
                         have hc := Lx.cl_other k hk6 H123.out.1 H123.out.2.1 H123.out.2.2 hb hs (by omega)
                         have HF := Lib.hid (And.intro HR0.out (And.intro ((Lx.tab0_same k hk6 hc) ▸ HR1.out) HRC.out))
                         clear hb hs hp hq hc
                         go_wp2_with (go_at_call 60; first
                          | refine (ib_x k _ _ [32, 9, 10] x1 rfl X1.out).mono ?_; rintro e w1 ⟨rfl, rfl⟩
                          | refine (ib_x k _ _ [59, 44, 46, 58, 40, 41, 123, 125, 61, 43, 45, 47] x2 rfl X2.out).mono ?_; rintro e w1 ⟨rfl, rfl⟩)
                         exact lx_round hk6 HF.out
               · skip
                 have q0 : (97 : Int) ≤ (k : Int) := by omega
                 have q1 : ¬ (k : Int) ≤ 122 := by omega
                 have q2 : (65 : Int) ≤ (k : Int) := by omega
                 have q3 : ¬ (k : Int) ≤ 90 := by omega
                 have q4 : (48 : Int) ≤ (k : Int) := by omega
                 have q5 : ¬ (k : Int) ≤ 57 := by omega
                 clear h1 h2 h3 g0 g1 g2
                 by_cases hb : k = 32 ∨ k = 9 ∨ k = 10
                 · have hI : (0 : Int) ≤ x1 := by rw [X1.out]; exact (Lx.ix_blank k hk6).2 hb
                   have HF := Lib.hid (HFIN.out 1 (Lx.cl_blank k hk6 hb))
                   clear hb
                   go_wp2_with (go_at_call 60; first
                    | refine (ib_x k _ _ [32, 9, 10] x1 rfl X1.out).mono ?_; rintro e w1 ⟨rfl, rfl⟩
                    | refine (ib_x k _ _ [59, 44, 46, 58, 40, 41, 123, 125, 61, 43, 45, 47] x2 rfl X2.out).mono ?_; rintro e w1 ⟨rfl, rfl⟩)
                   exact lx_round hk6 HF.out
                 · have hI : ¬ (0 : Int) ≤ x1 := by rw [X1.out]; exact fun h => hb ((Lx.ix_blank k hk6).1 h)
                   by_cases hs : k ∈ ([59, 44, 46, 58, 40, 41, 123, 125, 61, 43, 45, 47] : List Nat)
                   · have hJ : (0 : Int) ≤ x2 := by rw [X2.out]; exact (Lx.ix_sym k hk6).2 hs
                     have HF := Lib.hid (HFIN.out 6 (Lx.cl_sym k hk6 hs))
                     clear hb hs
                     go_wp2_with (go_at_call 60; first
                      | refine (ib_x k _ _ [32, 9, 10] x1 rfl X1.out).mono ?_; rintro e w1 ⟨rfl, rfl⟩
                      | refine (ib_x k _ _ [59, 44, 46, 58, 40, 41, 123, 125, 61, 43, 45, 47] x2 rfl X2.out).mono ?_; rintro e w1 ⟨rfl, rfl⟩)
                     exact lx_round hk6 HF.out
                   · have hJ : ¬ (0 : Int) ≤ x2 := by rw [X2.out]; exact fun h => hs ((Lx.ix_sym k hk6).1 h)
                     by_cases hp : k = 60
                     · have hP : ((k : Int) == (60 : Int)) = true := by simp only [beq_iff_eq]; omega
                       have HF := Lib.hid (HFIN.out 7 (Lx.cl_pre k hk6 (.inl hp)))
                       clear hb hs hp
                       go_wp2_with (go_at_call 60; first
                        | refine (ib_x k _ _ [32, 9, 10] x1 rfl X1.out).mono ?_; rintro e w1 ⟨rfl, rfl⟩
                        | refine (ib_x k _ _ [59, 44, 46, 58, 40, 41, 123, 125, 61, 43, 45, 47] x2 rfl X2.out).mono ?_; rintro e w1 ⟨rfl, rfl⟩)
                       exact lx_round hk6 HF.out
                     · have hP : ((k : Int) == (60 : Int)) = false := by simp only [beq_eq_false_iff_ne]; omega
                       by_cases hq : k = 62
                       · have hQ : ((k : Int) == (62 : Int)) = true := by simp only [beq_iff_eq]; omega
                         have HF := Lib.hid (HFIN.out 7 (Lx.cl_pre k hk6 (.inr hq)))
                         clear hb hs hp hq
                         go_wp2_with (go_at_call 60; first
                          | refine (ib_x k _ _ [32, 9, 10] x1 rfl X1.out).mono ?_; rintro e w1 ⟨rfl, rfl⟩
                          | refine (ib_x k _ _ [59, 44, 46, 58, 40, 41, 123, 125, 61, 43, 45, 47] x2 rfl X2.out).mono ?_; rintro e w1 ⟨rfl, rfl⟩)
                         exact lx_round hk6 HF.out
                       · have hQ : ((k : Int) == (62 : Int)) = false := by simp only [beq_eq_false_iff_ne]; omega
                         have hc := Lx.cl_other k hk6 H123.out.1 H123.out.2.1 H123.out.2.2 hb hs (by omega)
                         have HF := Lib.hid (And.intro HR0.out (And.intro ((Lx.tab0_same k hk6 hc) ▸ HR1.out) HRC.out))
                         clear hb hs hp hq hc
                         go_wp2_with (go_at_call 60; first
                          | refine (ib_x k _ _ [32, 9, 10] x1 rfl X1.out).mono ?_; rintro e w1 ⟨rfl, rfl⟩
                          | refine (ib_x k _ _ [59, 44, 46, 58, 40, 41, 123, 125, 61, 43, 45, 47] x2 rfl X2.out).mono ?_; rintro e w1 ⟨rfl, rfl⟩)
                         exact lx_round hk6 HF.out

   · have hk7 : ¬ (k : Int) < 256 := by omega
     have hk8 : k = 256 := by omega
     have HK := Lib.hid hk8
     have c35 : ∃ v, (Lx.tab0 k)[35]? = some v := ⟨(Lx.tab0 k)[35]'(by rw [Lx.tab0_len]; omega), by simp⟩
     have c95 : ∃ v, (Lx.tab0 k)[95]? = some v := ⟨(Lx.tab0 k)[95]'(by rw [Lx.tab0_len]; omega), by simp⟩
     have c33 : ∃ v, (Lx.tab0 k)[33]? = some v := ⟨(Lx.tab0 k)[33]'(by rw [Lx.tab0_len]; omega), by simp⟩
     obtain ⟨v35, c35⟩ := c35
     obtain ⟨v95, c95⟩ := c95
     obtain ⟨v33, c33⟩ := c33
     have d35 := HR1.out.cell c35
     have d95 := HR1.out.cell c95
     have d33 := HR1.out.cell c33
     have f35 := HR1.out.free 35
     have f95 := HR1.out.free 95
     have f33 := HR1.out.free 33
     clear c35 c95 c33 hk6 hk8 hk
     go_upto_region 20 with (fail)
     obtain ⟨wE, hwE⟩ : ∃ wE, wE = ((wr.setCell ⟨B + 1, 35, none⟩ (.int .u8 2)).setCell ⟨B + 1, 95, none⟩ (.int .u8 5)).setCell ⟨B + 1, 33, none⟩ (.int .u8 8) := ⟨_, rfl⟩
     rw [← hwE]
     have E0 : Blk wE B (Lx.tab0 0) 96 := by
      rw [hwE]
      exact ((HR0.out.other _ _ (by simp)).other _ _ (by simp)).other _ _ (by simp)
     have E1 : Blk wE (B + 1) Lx.tab 96 := by
      rw [hwE]
      have h := ((HR1.out.set 35 (.int .u8 2)).set 95 (.int .u8 5)).set 33 (.int .u8 8)
      rw [HK.out, Lx.tab_eq] at h
      exact h
     have EC : Chg [] w wE := by
      rw [hwE]
      exact ((HRC.out.setCell _ _ (.inr (by rw [← HBB.out]; simp))).setCell _ _ (.inr (by rw [← HBB.out]; simp))).setCell _ _ (.inr (by rw [← HBB.out]; simp))
     clear hwE d35 d95 d33 f35 f95 f33
     have HL := Lib.hid E1.range
     have HT : Hid (wE.there B 0 Lx.tab.toArray.size) := Lib.hid (E0.there (by rw [Lx.tab0_len, List.size_toArray, Lx.tab_len]))
     obtain ⟨wF, hwF⟩ : ∃ wF, wF = wE.setCells B 0 Lx.tab.toArray.toList := ⟨_, rfl⟩
     have HWF := Lib.hid hwF
     have HF : Hid (Blk wF B Lx.tab 96 ∧ Chg [] w wF) := by
      refine Lib.hid ?_
      rw [hwF]
      have h := setCells_blk B 96 Lx.tab 0 wE (Lx.tab0 0) E0 (by rw [Lx.tab_len, Lx.tab0_len]; omega)
      refine ⟨?_, EC.trans h.2 (fun j hj => .inr (by rw [List.mem_singleton] at hj; rw [hj, HBB.out]; omega))⟩
      have h1 := h.1
      rw [List.take_zero, List.nil_append, Lx.tab_len, List.drop_of_length_le (by rw [Lx.tab0_len]; omega), List.append_nil] at h1
      exact h1
     have hR := run_loadVar_mid (P := Tryd.prog) wF B 0 96 Lx.tab _ HF.out.1.range tab_under rfl (by rw [Lx.tab_len]; exact tab_size)
     have HR := Lib.hid hR
     clear hwF E0 E1 EC hR
     go_wp2_with fail
     refine wp_load_mid 96 _ rfl (B + 1) 0 rfl Lx.tab _ HL.out tab_under rfl (by rw [Lx.tab_len]; exact tab_size) ?_
     rename_i hK
     refine hK _ _ ?_
     clear hK
     refine wpList_store_mid rfl 96 _ _ rfl B 0 Lx.tab.toArray rfl rfl HT.out (by rw [List.size_toArray, Lx.tab_len]; exact tab_size) tab_one ?_
     rw [← HWF.out]
     have hR := HR.out
     go_wp2_with fail
     refine bodyPost_ret (v := .agg Lx.tab.toArray) ?_ rfl ⟨rfl, HF.out.2⟩
     simp [results, Tryd.results42, asAddr, Sem.run_bind, Sem.run_pure, Result.andThen_ok, hR]
end Go.Proofs.YtocadlcglgpdcaaDoor
