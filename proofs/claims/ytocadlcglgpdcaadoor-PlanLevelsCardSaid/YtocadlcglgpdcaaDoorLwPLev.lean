/-
  Plan, the law PlanLevels: the walk. Printed by genlev06.py.
-/
import Derived.Test.YtocadlcglgpdcaaDoorPnZb
import Derived.Test.YtocadlcglgpdcaaDoorPoH
namespace Go.Proofs.YtocadlcglgpdcaaDoor
set_option linter.unusedVariables false
set_option linter.unusedSimpArgs false
open Go Go.RowKit Go.Shelf
open Lx (Tk)
attribute [local go_sem ↓] Go.wp_at_zero Go.wp_at_succ
theorem brace_cat {a b : Bytes} {x y : ByteArray} (ha : x = ⟨a.toArray⟩) (hb : y = ⟨b.toArray⟩) : x ++ (⟨#[10]⟩ : ByteArray) ++ y ++ (⟨#[10, 125]⟩ : ByteArray) = ⟨(a ++ 10 :: (b ++ [10, 125])).toArray⟩ := by
  subst ha hb
  apply ByteArray.ext
  apply Array.ext'
  simp
theorem cut_mid {s : Bytes} {sb : ByteArray} (HSB : Hid (sb = ⟨s.toArray⟩)) {i j : Nat} (h : i ≤ j) : sb.extract i j = ⟨((s.drop i).take (j - i)).toArray⟩ := by
  rw [HSB.out, ← sub_mid, show i + (j - i) = j by omega]
theorem Pn.many_len {α : Type} {stop : List Tk → Bool} {one : List Tk → Rl.Out α} (he : Pn.Eat one) {l : List Tk} {xs : List α} {r : List Tk} (h : Pn.Many stop one l xs r) : xs.length + r.length ≤ l.length := by
  induction h with
  | nil _ => simp
  | cons _ h1 _ ih =>
    have := he _ _ _ h1
    simp only [List.length_cons]
    omega
theorem tyb_blk {w : World} {T B : Nat} {cs : List Value} {e : TypeId} {Es : List TypeId} (h : Blk w T cs e) (he : e ∉ Es) : TyB [T] w B Es := fun k hk => .inr fun ds e' fr h2 => by
  simp at hk
  subst hk
  unfold Blk at h
  rw [h] at h2
  cases h2
  exact he
theorem ListS.cap_le {α : Type} {w : World} {B : Nat} {E : TypeId} {size : Nat} {C : α → List Value → World → Prop} {l : List α} {ao : Option Addr} {n c : Nat} (h : ListS B E size C l (.slice ao n c) w) : l.length ≤ c := by
  obtain ⟨css, _, _, h3⟩ := h
  rcases h3.2 with ⟨h9, h0⟩ | ⟨g, cap, cur, h9, _, _, hle, _, _⟩
  · omega
  · cases h9
    exact hle
theorem hall_small {s : Bytes} (hs : s.length ≤ 1000000) : (Pn.parse s).1.levels.length ≤ 5000 := by
  by_cases h : (Pn.parse s).2.1 = 0
  · obtain ⟨h0, r, h1, -⟩ := Pn.parse_zero h
    obtain ⟨-, p5, p6, h2, h3, -⟩ := Pn.hall_parts h1
    have h4 := Pn.many_len Pn.eat_level h3
    have h5 := h2.length_le
    have h6 := Lx.lex_len s
    omega
  · rw [Pn.parse_nonzero h]
    exact Nat.zero_le _
set_option maxHeartbeats 40000000 in
set_option maxRecDepth 100000 in
theorem planLevels_walk (w : World) (s : Bytes) (hs0 : s.length ≤ 9223372036854775807) (o : Bytes) (ho0 : o.length ≤ 9223372036854775807) :
    Calls Tryd.prog 7 #[.string ⟨s.toArray⟩, .string ⟨o.toArray⟩] w fun e w' => e = .returned (.bool true) ∧ Chg [] w w' := by
  obtain ⟨sb, hsb⟩ : ∃ sb : ByteArray, sb = ⟨s.toArray⟩ := ⟨_, rfl⟩
  obtain ⟨mb, hmb⟩ : ∃ mb : ByteArray, mb = ⟨o.toArray⟩ := ⟨_, rfl⟩
  rw [← hsb, ← hmb]
  have HSB := Lib.hid hsb
  have HMB := Lib.hid hmb
  have hsz := hsize HSB
  have hmz := hsize HMB
  clear hsb hmb
  go_enter Tryd.func7, Tryd.ntmps7
  go_wp2_with fail
  refine (head_spec06 _).mono ?_
  rintro e w1 ⟨rfl, hc1⟩
  have HC1 := Lib.hid hc1
  clear hc1
  by_cases hl : s.length ≤ 4000
  · by_cases hm : o.length ≤ 4000
    · have q1 : ¬ (4000 : Int) < (sb.size : Int) := by rw [hsz]; omega
      have q2 : ¬ (4000 : Int) < (mb.size : Int) := by rw [hmz]; omega
      have HL := Lib.hid hl
      have HM := Lib.hid hm
      have HZ := Lib.hid hsz
      have HMZ := Lib.hid hmz
      clear hl hm hs0 ho0 hsz hmz
      go_wp2_with fail
      refine parse_hl (by have := HL.out; omega) HSB (fun p er A aop n1 capp w2 HPA HNL HL2 HC2 => ?_)
      clear q1 q2
      go_upto_region 5 with fail
      obtain ⟨W2, hW⟩ : ∃ W, W = w2.alloc (.cells #[.string ⟨p.name.toArray⟩, .int .i64 (p.sx : Nat), .int .i64 (p.sy : Nat), .slice aop n1 capp] 27) := ⟨_, rfl⟩
      rw [← hW]
      obtain ⟨X, hH⟩ : ∃ H, H = w2.heap.size := ⟨_, rfl⟩
      rw [← hH]
      have HX : Hid (Blk W2 X [.string ⟨p.name.toArray⟩, .int .i64 (p.sx : Nat), .int .i64 (p.sy : Nat), .slice aop n1 capp] 27) := Lib.hid (by rw [hW, hH]; exact Blk.new w2 _ _)
      have HW2 : Hid (Chg [] w2 W2) := Lib.hid (by rw [hW]; exact (Chg.refl [] w2).alloc _)
      clear hW hH
      go_wp2_with fail
      refine parse_hl (by have := HM.out; omega) HMB (fun q fr A2 aoq n2 capq w3 HPB HNM HL3 HC3 => ?_)
      go_upto_region 6 with fail
      obtain ⟨W3, hW⟩ : ∃ W, W = w3.alloc (.cells #[.string ⟨q.name.toArray⟩, .int .i64 (q.sx : Nat), .int .i64 (q.sy : Nat), .slice aoq n2 capq] 27) := ⟨_, rfl⟩
      rw [← hW]
      obtain ⟨Y, hH⟩ : ∃ H, H = w3.heap.size := ⟨_, rfl⟩
      rw [← hH]
      have HY : Hid (Blk W3 Y [.string ⟨q.name.toArray⟩, .int .i64 (q.sx : Nat), .int .i64 (q.sy : Nat), .slice aoq n2 capq] 27) := Lib.hid (by rw [hW, hH]; exact Blk.new w3 _ _)
      have HW3 : Hid (Chg [] w3 W3) := Lib.hid (by rw [hW]; exact (Chg.refl [] w3).alloc _)
      clear hW hH
      go_wp2_with fail
      refine lex_r (by have := HL.out; omega) HSB (fun al nl cl El Al w4 HT4 HC4 HE4 => ?_)
      go_wp2_with fail
      refine lex_r (by have := HM.out; omega) HMB (fun am nm cm Em Am w5 HT5 HC5 HE5 => ?_)
      have HCA : Hid (Chg [] w2 w5) := Lib.hid ((((HW2.out.trans HC3.out (by simp)).trans HW3.out (by simp)).trans HC4.out (by simp)).trans HC5.out (by simp))
      have HC : Hid (Chg [] w w5) := Lib.hid ((HC1.out.trans HC2.out (by simp)).trans HCA.out (by simp))
      have HX5 := Lib.hid ((((HC3.out.trans HW3.out (by simp)).trans HC4.out (by simp)).trans HC5.out (by simp)).blk HX.out (by simp))
      have HY5 := Lib.hid ((HC4.out.trans HC5.out (by simp)).blk HY.out (by simp))
      have HLP := Lib.hid (HL2.out.keep (kp_lv _) HCA.out (TyB.nil _ _ _))
      have HLQ := Lib.hid (HL3.out.keep (kp_lv _) ((HW3.out.trans HC4.out (by simp)).trans HC5.out (by simp)) (TyB.nil _ _ _))
      have HTL : Hid (TokS w5 (.slice al nl cl) (Lx.lex s).1) := Lib.hid (HT4.out.quiet HC5.out)
      have HBN : Hid (nl ≤ 5000 ∧ nm ≤ 5000) := Lib.hid (by have h1 := Lx.lex_len s; have h2 := Lx.lex_len o; have h3 := HE4.out.1; have h4 := HE5.out.1; omega)
      have hw : IntKind.i64.wrap ((nl : Int) + (nm : Int)) = ((nl + nm : Nat) : Int) := by rw [IntWalk.i64_in _ (by have := HBN.out; omega)]; omega
      by_cases e1 : er = 0
      · have b1 : ((er : Int) != 0) = false := by rw [e1]; rfl
        by_cases e2 : fr = 0
        · have b2 : ((fr : Int) != 0) = false := by rw [e2]; rfl
          by_cases e3 : nl + nm ≤ 4000
          · have b3 : ¬ (4000 : Int) < ((nl + nm : Nat) : Int) := by omega
            obtain ⟨k1, k2, k3, k4, u, ob, z, t1, t2, t3, t4, t5, t6, L, g1, g2, g3⟩ := Pn.levels_law HL.out HM.out (by rw [HPA.out]; exact e1) (by rw [HPB.out]; exact e2) (by rw [HE4.out.1, HE5.out.1]; exact e3)
            rw [HE4.out.2.1] at k1
            rw [HE5.out.2.1] at k2
            rw [HE4.out.1] at k3 t1
            rw [HE5.out.1] at k4 t3
            subst k1
            subst k2
            have b4 : ¬ (nl : Int) < 7 := by omega
            have b5 : ¬ (nm : Int) < 7 := by omega
            obtain ⟨ga, oa, f1, f2, f3, -, -, -, i3⟩ := HTL.out.get t1
            obtain ⟨gb, ob2, f4, f5, f6, -, -, -, i4⟩ := HT5.out.get t2
            obtain ⟨gc, oc, f7, -, -, -, -, -, i5⟩ := HT5.out.get t3
            subst f1
            subst f4
            simp only [Option.some.injEq, Addr.mk.injEq] at f7
            obtain ⟨rfl, rfl, -⟩ := f7
            obtain ⟨a1, ha1⟩ : ∃ x, u.at_ = x := ⟨_, rfl⟩
            obtain ⟨a2, ha2⟩ : ∃ x, ob.at_ = x := ⟨_, rfl⟩
            obtain ⟨a3, ha3⟩ : ∃ x, z.at_ = x := ⟨_, rfl⟩
            rw [ha1] at i3 t6 g1 g2
            rw [ha2] at i4 t4 g1 g2
            rw [ha3] at i5 t4 t5 g1 g2
            obtain ⟨J, hJ⟩ : ∃ J, J = s.take a1 ++ 10 :: ((o.drop (a2 + 1)).take (a3 - (a2 + 1)) ++ [10, 125]) := ⟨_, rfl⟩
            rw [← hJ] at g1 g2
            have HJ := Lib.hid hJ
            have HG1 := Lib.hid g1
            have HG2 := Lib.hid g2
            have HG3 := Lib.hid g3
            have HT46 := Lib.hid (show a2 + 1 ≤ a3 ∧ a3 ≤ o.length ∧ a1 ≤ s.length from ⟨t4, t5, t6⟩)
            have HI3 := Lib.hid i3
            have HI4 := Lib.hid i4
            have HI5 := Lib.hid i5
            have HJL : Hid (J.length ≤ 10000) := Lib.hid (by have h1 := HL.out; have h2 := HM.out; rw [hJ]; simp; omega)
            have c1 : (5 : Int) < (nm : Int) := by omega
            have c2 : (5 : Int) ≤ (cm : Int) := by omega
            have c3 : IntKind.i64.wrap ((nm : Int) - 1) = ((nm - 1 : Nat) : Int) := by rw [IntWalk.i64_in _ (by omega)]; omega
            have c4 : (0 : Int) ≤ ((nm - 1 : Nat) : Int) := by omega
            have c5 : ((nm - 1 : Nat) : Int) < (nm : Int) := by omega
            have c6 : ((nm - 1 : Nat) : Int) ≤ (cm : Int) := by omega
            have c7 : (((nm - 1 : Nat) : Int)).toNat = nm - 1 := by omega
            have d3 : IntKind.i64.wrap ((nl : Int) - 1) = ((nl - 1 : Nat) : Int) := by rw [IntWalk.i64_in _ (by omega)]; omega
            have d4 : (0 : Int) ≤ ((nl - 1 : Nat) : Int) := by omega
            have d5 : ((nl - 1 : Nat) : Int) < (nl : Int) := by omega
            have d6 : ((nl - 1 : Nat) : Int) ≤ (cl : Int) := by omega
            have d7 : (((nl - 1 : Nat) : Int)).toNat = nl - 1 := by omega
            have e5 : IntKind.i64.wrap ((a2 : Int) + 1) = ((a2 + 1 : Nat) : Int) := by rw [IntWalk.i64_in _ (by have := HM.out; omega)]; omega
            obtain ⟨m1, hm1⟩ : ∃ m1, m1 = nm - 1 := ⟨_, rfl⟩
            obtain ⟨l1, hl1⟩ : ∃ l1, l1 = nl - 1 := ⟨_, rfl⟩
            rw [← hm1] at c3 c4 c5 c6 c7 i5 HI5
            rw [← hl1] at d3 d4 d5 d6 d7 i3 HI3
            clear e1 e2 e3 g1 g2 g3 t1 t2 t3 t4 t5 t6 f2 f3 f5 f6 hJ ha1 ha2 ha3 k3 k4 hm1 hl1
            go_upto_region 12 with fail
            go_quiet (fail)
            go_upto_region 13 with fail
            obtain ⟨V, hV⟩ : ∃ V, V = w5.drewN nq := ⟨_, rfl⟩
            rw [← hV]
            have HVV : Hid (Chg [] w5 V) := Lib.hid (by rw [hV]; exact chg_drewN _ _)
            obtain ⟨a4, ha4⟩ : ∃ x : Nat, x = a2 + 1 := ⟨_, rfl⟩
            rw [show (a2 : Int) + 1 = (a4 : Int) by omega]
            rw [← ha4] at HT46 HJ
            have HI3 := Lib.hid (cell_quiet HVV.out HI3.out (by simp))
            have hz1 := HZ.out
            have hz2 := HMZ.out
            have h46 := HT46.out
            have e1 : ¬ (a3 : Int) < (a4 : Int) := by omega
            have e2 : (a4 : Int) ≤ (a3 : Int) := by omega
            have e3 : (0 : Int) ≤ (a4 : Int) := by omega
            have e4 : (0 : Int) ≤ (a1 : Int) := by omega
            have e6 : (a1 : Int) ≤ (sb.size : Int) := by rw [hz1]; omega
            have e7 : (a3 : Int) ≤ (mb.size : Int) := by rw [hz2]; omega
            have HCAT : Hid (sb.extract 0 a1 ++ (⟨#[10]⟩ : ByteArray) ++ mb.extract a4 a3 ++ (⟨#[10, 125]⟩ : ByteArray) = ⟨J.toArray⟩) := Lib.hid (by rw [HJ.out]; exact brace_cat (cut_to HSB a1) (cut_mid HMB (by omega)))
            have HBD : Hid (n1 ≤ 4611686018427387903 ∧ n2 ≤ 4611686018427387903) := Lib.hid (by
              have h1 := HG2.out
              have h2 := hall_small (s := s) (by have := HL.out; omega)
              have h3 := hall_small (s := o) (by have := HM.out; omega)
              rw [HPA.out] at h2
              rw [HPB.out] at h3
              rw [HNL.out, HNM.out]
              exact ⟨Nat.le_trans h2 (by decide), Nat.le_trans h3 (by decide)⟩)
            have u1 : ¬ 9223372036854775807 < min a1 sb.size + 1 := by have := HL.out; omega
            have u2 : ¬ 9223372036854775807 < min a1 sb.size + 1 + (min a3 mb.size - a4) := by have h1 := HL.out; have h2 := HM.out; omega
            have u3 : ¬ 9223372036854775807 < min a1 sb.size + 1 + (min a3 mb.size - a4) + 2 := by have h1 := HL.out; have h2 := HM.out; omega
            clear hV ha4 hz1 hz2 h46 c1 c2 c3 c4 c5 c6 c7 e5 i3 i4 i5
            go_upto_region 15 with fail
            refine wp_region_held_drew (S := fun W' => Chg [] V W') (by kernel_rfl) (Chg.refl _ _).drew (fun hHeld => ?_)
            obtain ⟨vd, hvd⟩ : ∃ x, x = V.drew := ⟨_, rfl⟩
            rw [← hvd] at hHeld ⊢
            clear hvd
            refine wpAnyH_take (i := 0) (v := ?va0) rfl (by kernel_rfl) (by kernel_rfl) (by kernel_rfl) (fun _ _ _ h => h) (Or.inl ⟨by kernel_rfl, ?hya0⟩) (by assumption) ?rsa0
            case hya0 => (intro w9 hSw; skip; go_simp; try with_reducible rfl)
            try simp only [Act.put, List.setIfInBounds_toArray, List.set_cons_zero, List.set_cons_succ, List.getElem_toArray, List.getElem_cons_succ, List.getElem_cons_zero]
            refine wpAnyH_take (i := 1) (v := ?va1) rfl (by kernel_rfl) (by kernel_rfl) (by kernel_rfl) (fun _ _ _ h => h) (Or.inl ⟨by kernel_rfl, ?hya1⟩) (by assumption) ?rsa1
            case hya1 => (intro w9 hSw; skip; go_simp; try with_reducible rfl)
            try simp only [Act.put, List.setIfInBounds_toArray, List.set_cons_zero, List.set_cons_succ, List.getElem_toArray, List.getElem_cons_succ, List.getElem_cons_zero]
            refine wpAnyH_take (i := 2) (v := ?va2) rfl (by kernel_rfl) (by kernel_rfl) (by kernel_rfl) (fun _ _ _ h => h) (Or.inl ⟨by kernel_rfl, ?hya2⟩) (by assumption) ?rsa2
            case hya2 => (intro w9 hSw; skip; go_simp; try with_reducible rfl)
            try simp only [Act.put, List.setIfInBounds_toArray, List.set_cons_zero, List.set_cons_succ, List.getElem_toArray, List.getElem_cons_succ, List.getElem_cons_zero]
            refine wpAnyH_take (i := 3) (v := ?va3) rfl (by kernel_rfl) (by kernel_rfl) (by kernel_rfl) (fun _ _ _ h => h) (Or.inl ⟨by kernel_rfl, ?hya3⟩) (by assumption) ?rsa3
            case hya3 => (intro w9 hSw; skip; go_simp; try with_reducible rfl)
            try simp only [Act.put, List.setIfInBounds_toArray, List.set_cons_zero, List.set_cons_succ, List.getElem_toArray, List.getElem_cons_succ, List.getElem_cons_zero]
            refine wpAnyH_take (i := 4) (v := ?va4) rfl (by kernel_rfl) (by kernel_rfl) (by kernel_rfl) (fun _ _ _ h => h) (Or.inl ⟨by kernel_rfl, ?hya4⟩) (by assumption) ?rsa4
            case hya4 => (intro w9 hSw; skip; go_simp; try with_reducible rfl)
            try simp only [Act.put, List.setIfInBounds_toArray, List.set_cons_zero, List.set_cons_succ, List.getElem_toArray, List.getElem_cons_succ, List.getElem_cons_zero]
            refine wpAnyH_take (i := 5) (v := ?va5) rfl (by kernel_rfl) (by kernel_rfl) (by kernel_rfl) (fun _ _ _ h => h) (Or.inl ⟨by kernel_rfl, ?hya5⟩) (by assumption) ?rsa5
            case hya5 => (intro w9 hSw; skip; go_simp; try with_reducible rfl)
            try simp only [Act.put, List.setIfInBounds_toArray, List.set_cons_zero, List.set_cons_succ, List.getElem_toArray, List.getElem_cons_succ, List.getElem_cons_zero]
            refine wpAnyH_take (i := 6) (v := ?va6) rfl (by kernel_rfl) (by kernel_rfl) (by kernel_rfl) (fun _ _ _ h => h) (Or.inl ⟨by kernel_rfl, ?hya6⟩) (by assumption) ?rsa6
            case hya6 => (intro w9 hSw; skip; go_simp; try with_reducible rfl)
            try simp only [Act.put, List.setIfInBounds_toArray, List.set_cons_zero, List.set_cons_succ, List.getElem_toArray, List.getElem_cons_succ, List.getElem_cons_zero]
            refine wpAnyH_take (i := 7) (v := ?va7) rfl (by kernel_rfl) (by kernel_rfl) (by kernel_rfl) (fun _ _ _ h => h) (Or.inl ⟨by kernel_rfl, ?hya7⟩) (by assumption) ?rsa7
            case hya7 => (intro w9 hSw; have d := cell_quiet hSw HI3.out (by simp); go_simp; try with_reducible rfl)
            try simp only [Act.put, List.setIfInBounds_toArray, List.set_cons_zero, List.set_cons_succ, List.getElem_toArray, List.getElem_cons_succ, List.getElem_cons_zero]
            refine wpAnyH_take (i := 8) (v := ?va8) rfl (by kernel_rfl) (by kernel_rfl) (by kernel_rfl) (fun _ _ _ h => h) (Or.inl ⟨by kernel_rfl, ?hya8⟩) (by assumption) ?rsa8
            case hya8 => (intro w9 hSw; skip; go_simp; try with_reducible rfl)
            try simp only [Act.put, List.setIfInBounds_toArray, List.set_cons_zero, List.set_cons_succ, List.getElem_toArray, List.getElem_cons_succ, List.getElem_cons_zero]
            refine wpAnyH_take (i := 9) (v := ?va9) rfl (by kernel_rfl) (by kernel_rfl) (by kernel_rfl) (fun _ _ _ h => h) (Or.inl ⟨by kernel_rfl, ?hya9⟩) (by assumption) ?rsa9
            case hya9 => (intro w9 hSw; skip; go_simp; try with_reducible rfl)
            try simp only [Act.put, List.setIfInBounds_toArray, List.set_cons_zero, List.set_cons_succ, List.getElem_toArray, List.getElem_cons_succ, List.getElem_cons_zero]
            refine wpAnyH_take (i := 10) (v := ?va10) rfl (by kernel_rfl) (by kernel_rfl) (by kernel_rfl) (fun _ _ _ h => h) (Or.inl ⟨by kernel_rfl, ?hya10⟩) (by assumption) ?rsa10
            case hya10 => (intro w9 hSw; skip; go_simp; try with_reducible rfl)
            try simp only [Act.put, List.setIfInBounds_toArray, List.set_cons_zero, List.set_cons_succ, List.getElem_toArray, List.getElem_cons_succ, List.getElem_cons_zero]
            refine wpAnyH_take (i := 11) (v := ?va11) rfl (by kernel_rfl) (by kernel_rfl) (by kernel_rfl) (fun _ _ _ h => h) (Or.inl ⟨by kernel_rfl, ?hya11⟩) (by assumption) ?rsa11
            case hya11 => (intro w9 hSw; skip; go_simp; try with_reducible rfl)
            try simp only [Act.put, List.setIfInBounds_toArray, List.set_cons_zero, List.set_cons_succ, List.getElem_toArray, List.getElem_cons_succ, List.getElem_cons_zero]
            refine wpAnyH_take (i := 12) (v := ?va12) rfl (by kernel_rfl) (by kernel_rfl) (by kernel_rfl) (fun _ _ _ h => h) (Or.inl ⟨by kernel_rfl, ?hya12⟩) (by assumption) ?rsa12
            case hya12 => (intro w9 hSw; skip; go_simp; try with_reducible rfl)
            try simp only [Act.put, List.setIfInBounds_toArray, List.set_cons_zero, List.set_cons_succ, List.getElem_toArray, List.getElem_cons_succ, List.getElem_cons_zero]
            refine wpAnyH_take (i := 13) (v := ?va13) rfl (by kernel_rfl) (by kernel_rfl) (by kernel_rfl) (fun _ _ _ h => h) (Or.inl ⟨by kernel_rfl, ?hya13⟩) (by assumption) ?rsa13
            case hya13 => (intro w9 hSw; skip; go_simp; try with_reducible rfl)
            try simp only [Act.put, List.setIfInBounds_toArray, List.set_cons_zero, List.set_cons_succ, List.getElem_toArray, List.getElem_cons_succ, List.getElem_cons_zero]
            refine wpAnyH_take (i := 14) (v := ?va14) rfl (by kernel_rfl) (by kernel_rfl) (by kernel_rfl) (fun _ _ _ h => h) (Or.inl ⟨by kernel_rfl, ?hya14⟩) (by assumption) ?rsa14
            case hya14 => (intro w9 hSw; skip; go_simp; try with_reducible rfl)
            try simp only [Act.put, List.setIfInBounds_toArray, List.set_cons_zero, List.set_cons_succ, List.getElem_toArray, List.getElem_cons_succ, List.getElem_cons_zero]
            refine wpAnyH_take (i := 15) (v := ?va15) rfl (by kernel_rfl) (by kernel_rfl) (by kernel_rfl) (fun _ _ _ h => h) (Or.inl ⟨by kernel_rfl, ?hya15⟩) (by assumption) ?rsa15
            case hya15 => (intro w9 hSw; skip; go_simp; try with_reducible rfl)
            try simp only [Act.put, List.setIfInBounds_toArray, List.set_cons_zero, List.set_cons_succ, List.getElem_toArray, List.getElem_cons_succ, List.getElem_cons_zero]
            refine wpAnyH_ready (rs := [16, 21]) (by kernel_rfl) (by simp) (AllReadyH.cons rfl (fun K hK => ?_) (AllReadyH.cons rfl (fun K hK => ?_) AllReadyH.nil))
            · skip
              go_simp
              refine parse_hl (s := J) (by have := HJL.out; omega) HCAT (fun r8 er8 A8 ao8 n8 cap8 va HP8 HN8 HL8 HC8 => ?_)
              obtain ⟨VB, hVB⟩ : ∃ x, x = vd.heap.size := ⟨_, rfl⟩
              rw [← hVB] at HL8
              refine hK.out _ _ (hHeld.trans HC8.out (by simp)) (fun hHeld => ?_)
              clear hK K
              try simp only [Act.put, List.setIfInBounds_toArray, List.set_cons_zero, List.set_cons_succ, List.getElem_toArray, List.getElem_cons_succ, List.getElem_cons_zero]
              refine wpAnyH_take (i := 17) (v := ?vp17) rfl (by kernel_rfl) (by kernel_rfl) (by kernel_rfl) (fun _ _ _ h => h) (Or.inl ⟨by kernel_rfl, ?hyp17⟩) (by assumption) ?rsp17
              case hyp17 => (intro w9 hSw; skip; go_simp; try with_reducible rfl)
              try simp only [Act.put, List.setIfInBounds_toArray, List.set_cons_zero, List.set_cons_succ, List.getElem_toArray, List.getElem_cons_succ, List.getElem_cons_zero]
              refine wpAnyH_take (i := 18) (v := ?vp18) rfl (by kernel_rfl) (by kernel_rfl) (by kernel_rfl) (fun _ _ _ h => h) (Or.inl ⟨by kernel_rfl, ?hyp18⟩) (by assumption) ?rsp18
              case hyp18 => (intro w9 hSw; skip; go_simp; try with_reducible rfl)
              try simp only [Act.put, List.setIfInBounds_toArray, List.set_cons_zero, List.set_cons_succ, List.getElem_toArray, List.getElem_cons_succ, List.getElem_cons_zero]
              refine wpAnyH_take (i := 19) (v := ?vp19) rfl (by kernel_rfl) (by kernel_rfl) (by kernel_rfl) (fun _ _ _ h => h) (Or.inl ⟨by kernel_rfl, ?hyp19⟩) (by assumption) ?rsp19
              case hyp19 => (intro w9 hSw; skip; go_simp; try with_reducible rfl)
              try simp only [Act.put, List.setIfInBounds_toArray, List.set_cons_zero, List.set_cons_succ, List.getElem_toArray, List.getElem_cons_succ, List.getElem_cons_zero]
              refine wpAnyH_take (i := 20) (v := ?vp20) rfl (by kernel_rfl) (by kernel_rfl) (by kernel_rfl) (fun _ _ _ h => h) (Or.inl ⟨by kernel_rfl, ?hyp20⟩) (by assumption) ?rsp20
              case hyp20 => (intro w9 hSw; skip; go_simp; try with_reducible rfl)
              try simp only [Act.put, List.setIfInBounds_toArray, List.set_cons_zero, List.set_cons_succ, List.getElem_toArray, List.getElem_cons_succ, List.getElem_cons_zero]
              refine wpAnyH_ready (rs := [21]) (by kernel_rfl) (by simp) (AllReadyH.cons rfl (fun K hK => ?_) AllReadyH.nil)
              go_simp
              obtain ⟨vb, hv⟩ : ∃ x, x = va.alloc (.cells #[.string ⟨#[]⟩, .int .i64 0, .int .i64 0, .slice none 0 0] 27) := ⟨_, rfl⟩
              rw [← hv]
              obtain ⟨T, hT⟩ : ∃ T, T = va.heap.size := ⟨_, rfl⟩
              rw [← hT]
              have HT0 : Hid (Blk vb T [.string ⟨#[]⟩, .int .i64 0, .int .i64 0, .slice none 0 0] 27) := Lib.hid (by rw [hv, hT]; exact Blk.new va _ _)
              have HGT : Hid (V.heap.size ≤ T) := Lib.hid (by rw [hT]; exact hHeld.size)
              have HT1 := HT0
              have HLB : Hid (ListS VB 47 8 (Clv VB) r8.levels (.slice ao8 n8 cap8) vb) := Lib.hid (by rw [hv]; exact HL8.out.keep (kp_lv _) ((Chg.refl [] va).alloc _) (TyB.nil _ _ _))
              have HTY : Hid (TyB [T] vb VB [47, 51, 54, 64, 58, 56, 24]) := Lib.hid (tyb_blk HT1.out (by decide))
              refine hK.out _ _ (by rw [hv]; exact hHeld.alloc _) (fun hHeld => ?_)
              clear hK K hv hT hVB
              try simp only [Act.put, List.setIfInBounds_toArray, List.set_cons_zero, List.set_cons_succ, List.getElem_toArray, List.getElem_cons_succ, List.getElem_cons_zero]
              refine wpAnyH_ready (rs := [22]) (by kernel_rfl) (by simp) (AllReadyH.cons rfl (fun K hK => ?_) AllReadyH.nil)
              have z0 := HT1.out.cell (i := 0) rfl
              have z1 := HT1.out.cell (i := 1) rfl
              have z2 := HT1.out.cell (i := 2) rfl
              have z3 := HT1.out.cell (i := 3) rfl
              have f0 := HT1.out.free 0
              have f1 := HT1.out.free 1
              have f2 := HT1.out.free 2
              have f3 := HT1.out.free 3
              go_simp
              obtain ⟨vc, hv⟩ : ∃ x, x = ((((vb.setCell ⟨T, 0, none⟩ (.string ⟨r8.name.toArray⟩)).setCell ⟨T, 1, none⟩ (.int .i64 (r8.sx : Nat))).setCell ⟨T, 2, none⟩ (.int .i64 (r8.sy : Nat))).setCell ⟨T, 3, none⟩ (.slice ao8 n8 cap8)) := ⟨_, rfl⟩
              rw [← hv]
              have HTB : Hid (Blk vc T [.string ⟨r8.name.toArray⟩, .int .i64 (r8.sx : Nat), .int .i64 (r8.sy : Nat), .slice ao8 n8 cap8] 27) := Lib.hid (by rw [hv]; exact ((((HT1.out.set 0 _).set 1 _).set 2 _).set 3 _))
              have HLR : Hid (ListS VB 47 8 (Clv VB) r8.levels (.slice ao8 n8 cap8) vc) := Lib.hid (by rw [hv]; exact HLB.out.keep (kp_lv _) (own := [T]) (((((Chg.refl _ _).setCell _ _ (.inl (by simp))).setCell _ _ (.inl (by simp))).setCell _ _ (.inl (by simp))).setCell _ _ (.inl (by simp))) HTY.out)
              clear z0 z1 z2 z3 f0 f1 f2 f3
              refine hK.out _ _ (by rw [hv]; exact (((hHeld.setCell _ _ (.inr (by show _ ≤ T; exact HGT.out))).setCell _ _ (.inr (by show _ ≤ T; exact HGT.out))).setCell _ _ (.inr (by show _ ≤ T; exact HGT.out))).setCell _ _ (.inr (by show _ ≤ T; exact HGT.out))) (fun hHeld => ?_)
              clear hK K hv
              try simp only [Act.put, List.setIfInBounds_toArray, List.set_cons_zero, List.set_cons_succ, List.getElem_toArray, List.getElem_cons_succ, List.getElem_cons_zero]
              refine wpAnyH_take (i := 23) (v := ?vp23) rfl (by kernel_rfl) (by kernel_rfl) (by kernel_rfl) (fun _ _ _ h => h) (Or.inl ⟨by kernel_rfl, ?hyp23⟩) (by assumption) ?rsp23
              case hyp23 => (intro w9 hSw; skip; go_simp; try with_reducible rfl)
              try simp only [Act.put, List.setIfInBounds_toArray, List.set_cons_zero, List.set_cons_succ, List.getElem_toArray, List.getElem_cons_succ, List.getElem_cons_zero]
              refine wpAnyH_take (i := 24) (v := ?vp24) rfl (by kernel_rfl) (by kernel_rfl) (by kernel_rfl) (fun _ _ _ h => h) (Or.inl ⟨by kernel_rfl, ?hyp24⟩) (by assumption) ?rsp24
              case hyp24 => (intro w9 hSw; skip; go_simp; try with_reducible rfl)
              try simp only [Act.put, List.setIfInBounds_toArray, List.set_cons_zero, List.set_cons_succ, List.getElem_toArray, List.getElem_cons_succ, List.getElem_cons_zero]
              refine wpAnyH_done (by kernel_rfl) ?_ _
              try simp only [Act.put, List.setIfInBounds_toArray, List.set_cons_zero, List.set_cons_succ, List.getElem_toArray, List.getElem_cons_succ, List.getElem_cons_zero]
              have HH := Lib.hid hHeld
              clear hHeld
              obtain ⟨h1, h2⟩ : er8 = 0 ∧ r8 = ⟨p.name, p.sx, p.sy, p.levels ++ L⟩ := by
                have h1 := HG1.out
                have h2 := HG2.out
                rw [HP8.out] at h1 h2
                rw [HPA.out] at h2
                exact ⟨h1, h2⟩
              subst h1
              subst h2
              have HX9 := Lib.hid ((HVV.out.trans HH.out (by simp)).blk HX5.out (by simp))
              have HY9 := Lib.hid ((HVV.out.trans HH.out (by simp)).blk HY5.out (by simp))
              have HP9 := Lib.hid (HLP.out.keep (kp_lv _) (HVV.out.trans HH.out (by simp)) (TyB.nil _ _ _))
              have HQ9 := Lib.hid (HLQ.out.keep (kp_lv _) (HVV.out.trans HH.out (by simp)) (TyB.nil _ _ _))
              have HC9 : Hid (Chg [] w vc) := Lib.hid (HC.out.trans (HVV.out.trans HH.out (by simp)) (by simp))
              have hn8 : n8 = n1 + n2 := by rw [HN8.out, HNL.out, HNM.out]; show (p.levels ++ L).length = _; rw [List.length_append, HG3.out.1, HPB.out]
              have HN9 := Lib.hid hn8
              have y0 := HTB.out.cell (i := 0) rfl
              have y1 := HTB.out.cell (i := 1) rfl
              have y2 := HTB.out.cell (i := 2) rfl
              have y3 := HTB.out.cell (i := 3) rfl
              have x0 := HX9.out.cell (i := 0) rfl
              have x1 := HX9.out.cell (i := 1) rfl
              have x2 := HX9.out.cell (i := 2) rfl
              have x3 := HX9.out.cell (i := 3) rfl
              have z3 := HY9.out.cell (i := 3) rfl
              have hb1 : n1 ≤ 4611686018427387903 ∧ n2 ≤ 4611686018427387903 := by have h1 := HBD.out; exact h1
              have hw9 : IntKind.i64.wrap ((n1 : Int) + (n2 : Int)) = (n8 : Int) := by rw [IntWalk.i64_in _ (by omega)]; omega
              have hbb : ((n8 : Int) != (n8 : Int)) = false := by simp
              clear hn8 hb1
              go_wp2_with fail
              clear x0 x1 x2 x3 y0 y1 y2 y3 z3 hw9 hbb
              go_loopw [23] (fun iv wr => ∃ j : Nat, iv = .int .i64 (j : Int) ∧ j ≤ n8 ∧ Hid (Chg [] vc wr)) (fun iv _ => n8 - intN iv)
              case atStart => exact ⟨0, rfl, Nat.zero_le _, Lib.hid (Chg.refl _ _)⟩
              case round =>
                obtain ⟨j, rfl, hj, HCR⟩ := hrel
                have y3 := (HCR.out.blk HTB.out (by simp)).cell (i := 3) rfl
                have x3 := (HCR.out.blk HX9.out (by simp)).cell (i := 3) rfl
                have z3 := (HCR.out.blk HY9.out (by simp)).cell (i := 3) rfl
                have Y3 := Lib.hid y3
                have X3 := Lib.hid x3
                have Z3 := Lib.hid z3
                by_cases hlt : j < n8
                · have q0 : (0 : Int) ≤ (j : Int) := by omega
                  have q1 : (j : Int) < (n8 : Int) := by omega
                  have q2 : (j : Int) ≤ (cap8 : Int) := by have := HLR.out.cap_le; rw [HN8.out] at hlt; omega
                  have qj : ((j : Int)).toNat = j := by omega
                  have hw2 : IntKind.i64.wrap ((j : Int) + 1) = ((j + 1 : Nat) : Int) := by rw [IntWalk.i64_in _ (by have h1 := HN9.out; have h2 := HBD.out; omega)]; omega
                  clear x3 z3
                  by_cases hlo : j < n1
                  · obtain ⟨x, hx⟩ : ∃ x, p.levels[j]? = some x := ⟨p.levels[j]'(by rw [← HNL.out]; exact hlo), by simp⟩
                    have hx8 : (p.levels ++ L)[j]? = some x := by rw [List.getElem?_append_left (by rw [← HNL.out]; exact hlo)]; exact hx
                    obtain ⟨ga, cpa, p1a, s1a, p2a, s2a, p3a, s3a, p4a, s4a, p5a, s5a, eva, eca, t1a, t2a, t3a, t4a, t5a, k0, k1, k2, k3, k4, k5, k6, k7⟩ := lev_get (HLR.out.keep (kp_lv _) HCR.out (TyB.nil _ _ _)) hx8
                    obtain ⟨gb, cpb, p1b, s1b, p2b, s2b, p3b, s3b, p4b, s4b, p5b, s5b, evb, ecb, t1b, t2b, t3b, t4b, t5b, l0, l1, l2, l3, l4, l5, l6, l7⟩ := lev_get (HP9.out.keep (kp_lv _) HCR.out (TyB.nil _ _ _)) hx
                    rw [← HN8.out] at eva eca
                    rw [← HNL.out] at evb ecb
                    simp only [Value.slice.injEq, true_and] at eva evb
                    obtain ⟨rfl, rfl⟩ := eva
                    obtain ⟨rfl, rfl⟩ := evb
                    have Ta : Hid (LvL VB x (.slice p1a x.blocks.length s1a) (.slice p2a x.areas.length s2a) (.slice p3a x.aisles.length s3a) (.slice p4a x.pillars.length s4a) (.slice p5a x.doors.length s5a) wr) := Lib.hid ⟨t1a, t2a, t3a, t4a, t5a⟩
                    have Tb : Hid (LvL w1.heap.size x (.slice p1b x.blocks.length s1b) (.slice p2b x.areas.length s2b) (.slice p3b x.aisles.length s3b) (.slice p4b x.pillars.length s4b) (.slice p5b x.doors.length s5b) wr) := Lib.hid ⟨t1b, t2b, t3b, t4b, t5b⟩
                    have q3 : (j : Int) < (n1 : Int) := by omega
                    have q4 : (j : Int) ≤ (capp : Int) := by omega
                    have q5 : ¬ (n1 : Int) ≤ (j : Int) := by omega
                    clear hx hx8 eca ecb t1a t2a t3a t4a t5a t1b t2b t3b t4b t5b
                    have Kk0 := Lib.hid k0
                    have Kk1 := Lib.hid k1
                    have Kk2 := Lib.hid k2
                    have Kk3 := Lib.hid k3
                    have Kk4 := Lib.hid k4
                    have Kk5 := Lib.hid k5
                    have Kk6 := Lib.hid k6
                    have Kk7 := Lib.hid k7
                    have Kl0 := Lib.hid l0
                    have Kl1 := Lib.hid l1
                    have Kl2 := Lib.hid l2
                    have Kl3 := Lib.hid l3
                    have Kl4 := Lib.hid l4
                    have Kl5 := Lib.hid l5
                    have Kl6 := Lib.hid l6
                    have Kl7 := Lib.hid l7
                    clear k0 k1 k2 k3 k4 k5 k6 k7 l0 l1 l2 l3 l4 l5 l6 l7
                    go_upto_region 21 with fail
                    clear y3
                    refine wp_region_held_drew (S := fun W' => Chg [] wr W') (by kernel_rfl) (Chg.refl _ _).drew (fun hHeld => ?_)
                    refine wpAnyH_take (i := 0) (v := ?ve0) rfl (by kernel_rfl) (by kernel_rfl) (by kernel_rfl) (fun _ _ _ h => h) (Or.inl ⟨by kernel_rfl, ?hye0⟩) (by assumption) ?rse0
                    case hye0 => (intro w9 hSw; skip; go_simp; try with_reducible rfl)
                    try simp only [Act.put, List.setIfInBounds_toArray, List.set_cons_zero, List.set_cons_succ, List.getElem_toArray, List.getElem_cons_succ, List.getElem_cons_zero]
                    refine wpAnyH_take (i := 1) (v := ?ve1) rfl (by kernel_rfl) (by kernel_rfl) (by kernel_rfl) (fun _ _ _ h => h) (Or.inl ⟨by kernel_rfl, ?hye1⟩) (by assumption) ?rse1
                    case hye1 => (intro w9 hSw; skip; go_simp; try with_reducible rfl)
                    try simp only [Act.put, List.setIfInBounds_toArray, List.set_cons_zero, List.set_cons_succ, List.getElem_toArray, List.getElem_cons_succ, List.getElem_cons_zero]
                    refine wpAnyH_take (i := 2) (v := ?ve2) rfl (by kernel_rfl) (by kernel_rfl) (by kernel_rfl) (fun _ _ _ h => h) (Or.inl ⟨by kernel_rfl, ?hye2⟩) (by assumption) ?rse2
                    case hye2 => (intro w9 hSw; have d := cell_quiet hSw X3.out (by simp); go_simp; try with_reducible rfl)
                    try simp only [Act.put, List.setIfInBounds_toArray, List.set_cons_zero, List.set_cons_succ, List.getElem_toArray, List.getElem_cons_succ, List.getElem_cons_zero]
                    refine wpAnyH_take (i := 3) (v := ?ve3) rfl (by kernel_rfl) (by kernel_rfl) (by kernel_rfl) (fun _ _ _ h => h) (Or.inl ⟨by kernel_rfl, ?hye3⟩) (by assumption) ?rse3
                    case hye3 => (intro w9 hSw; skip; go_simp; try with_reducible rfl)
                    try simp only [Act.put, List.setIfInBounds_toArray, List.set_cons_zero, List.set_cons_succ, List.getElem_toArray, List.getElem_cons_succ, List.getElem_cons_zero]
                    refine wpAnyH_take (i := 4) (v := ?ve4) rfl (by kernel_rfl) (by kernel_rfl) (by kernel_rfl) (fun _ _ _ h => h) (Or.inl ⟨by kernel_rfl, ?hye4⟩) (by assumption) ?rse4
                    case hye4 => (intro w9 hSw; skip; go_simp; try with_reducible rfl)
                    try simp only [Act.put, List.setIfInBounds_toArray, List.set_cons_zero, List.set_cons_succ, List.getElem_toArray, List.getElem_cons_succ, List.getElem_cons_zero]
                    refine wpAnyH_take (i := 5) (v := ?ve5) rfl (by kernel_rfl) (by kernel_rfl) (by kernel_rfl) (fun _ _ _ h => h) (Or.inl ⟨by kernel_rfl, ?hye5⟩) (by assumption) ?rse5
                    case hye5 => (intro w9 hSw; skip; go_simp; try with_reducible rfl)
                    try simp only [Act.put, List.setIfInBounds_toArray, List.set_cons_zero, List.set_cons_succ, List.getElem_toArray, List.getElem_cons_succ, List.getElem_cons_zero]
                    refine wpAnyH_take (i := 6) (v := ?ve6) rfl (by kernel_rfl) (by kernel_rfl) (by kernel_rfl) (fun _ _ _ h => h) (Or.inl ⟨by kernel_rfl, ?hye6⟩) (by assumption) ?rse6
                    case hye6 => (intro w9 hSw; skip; go_simp; try with_reducible rfl)
                    try simp only [Act.put, List.setIfInBounds_toArray, List.set_cons_zero, List.set_cons_succ, List.getElem_toArray, List.getElem_cons_succ, List.getElem_cons_zero]
                    refine wpAnyH_take (i := 7) (v := ?ve7) rfl (by kernel_rfl) (by kernel_rfl) (by kernel_rfl) (fun _ _ _ h => h) (Or.inl ⟨by kernel_rfl, ?hye7⟩) (by assumption) ?rse7
                    case hye7 => (intro w9 hSw; have d := cell_quiet hSw Y3.out (by simp); go_simp; try with_reducible rfl)
                    try simp only [Act.put, List.setIfInBounds_toArray, List.set_cons_zero, List.set_cons_succ, List.getElem_toArray, List.getElem_cons_succ, List.getElem_cons_zero]
                    refine wpAnyH_take (i := 8) (v := ?ve8) rfl (by kernel_rfl) (by kernel_rfl) (by kernel_rfl) (fun _ _ _ h => h) (Or.inl ⟨by kernel_rfl, ?hye8⟩) (by assumption) ?rse8
                    case hye8 => (intro w9 hSw; skip; go_simp; try with_reducible rfl)
                    try simp only [Act.put, List.setIfInBounds_toArray, List.set_cons_zero, List.set_cons_succ, List.getElem_toArray, List.getElem_cons_succ, List.getElem_cons_zero]
                    refine wpAnyH_take (i := 9) (v := ?ve9) rfl (by kernel_rfl) (by kernel_rfl) (by kernel_rfl) (fun _ _ _ h => h) (Or.inl ⟨by kernel_rfl, ?hye9⟩) (by assumption) ?rse9
                    case hye9 => (intro w9 hSw; skip; go_simp; try with_reducible rfl)
                    try simp only [Act.put, List.setIfInBounds_toArray, List.set_cons_zero, List.set_cons_succ, List.getElem_toArray, List.getElem_cons_succ, List.getElem_cons_zero]
                    refine wpAnyH_take (i := 10) (v := ?ve10) rfl (by kernel_rfl) (by kernel_rfl) (by kernel_rfl) (fun _ _ _ h => h) (Or.inl ⟨by kernel_rfl, ?hye10⟩) (by assumption) ?rse10
                    case hye10 => (intro w9 hSw; have d0 := cell_quiet hSw Kk0.out (by simp); have d1 := cell_quiet hSw Kk1.out (by simp); have d2 := cell_quiet hSw Kk2.out (by simp); have d3 := cell_quiet hSw Kk3.out (by simp); have d4 := cell_quiet hSw Kk4.out (by simp); have d5 := cell_quiet hSw Kk5.out (by simp); have d6 := cell_quiet hSw Kk6.out (by simp); have d7 := cell_quiet hSw Kk7.out (by simp); go_simp; try with_reducible rfl)
                    try simp only [Act.put, List.setIfInBounds_toArray, List.set_cons_zero, List.set_cons_succ, List.getElem_toArray, List.getElem_cons_succ, List.getElem_cons_zero]
                    refine wpAnyH_take (i := 11) (v := ?ve11) rfl (by kernel_rfl) (by kernel_rfl) (by kernel_rfl) (fun _ _ _ h => h) (Or.inl ⟨by kernel_rfl, ?hye11⟩) (by assumption) ?rse11
                    case hye11 => (intro w9 hSw; skip; go_simp; try with_reducible rfl)
                    try simp only [Act.put, List.setIfInBounds_toArray, List.set_cons_zero, List.set_cons_succ, List.getElem_toArray, List.getElem_cons_succ, List.getElem_cons_zero]
                    refine wpAnyH_take (i := 12) (v := ?ve12) rfl (by kernel_rfl) (by kernel_rfl) (by kernel_rfl) (fun _ _ _ h => h) (Or.inl ⟨by kernel_rfl, ?hye12⟩) (by assumption) ?rse12
                    case hye12 => (intro w9 hSw; have d := cell_quiet hSw X3.out (by simp); go_simp; try with_reducible rfl)
                    try simp only [Act.put, List.setIfInBounds_toArray, List.set_cons_zero, List.set_cons_succ, List.getElem_toArray, List.getElem_cons_succ, List.getElem_cons_zero]
                    refine wpAnyH_take (i := 13) (v := ?ve13) rfl (by kernel_rfl) (by kernel_rfl) (by kernel_rfl) (fun _ _ _ h => h) (Or.inl ⟨by kernel_rfl, ?hye13⟩) (by assumption) ?rse13
                    case hye13 => (intro w9 hSw; skip; go_simp; try with_reducible rfl)
                    try simp only [Act.put, List.setIfInBounds_toArray, List.set_cons_zero, List.set_cons_succ, List.getElem_toArray, List.getElem_cons_succ, List.getElem_cons_zero]
                    refine wpAnyH_take (i := 14) (v := ?ve14) rfl (by kernel_rfl) (by kernel_rfl) (by kernel_rfl) (fun _ _ _ h => h) (Or.inl ⟨by kernel_rfl, ?hye14⟩) (by assumption) ?rse14
                    case hye14 => (intro w9 hSw; skip; go_simp; try with_reducible rfl)
                    try simp only [Act.put, List.setIfInBounds_toArray, List.set_cons_zero, List.set_cons_succ, List.getElem_toArray, List.getElem_cons_succ, List.getElem_cons_zero]
                    refine wpAnyH_take (i := 15) (v := ?ve15) rfl (by kernel_rfl) (by kernel_rfl) (by kernel_rfl) (fun _ _ _ h => h) (Or.inl ⟨by kernel_rfl, ?hye15⟩) (by assumption) ?rse15
                    case hye15 => (intro w9 hSw; have d0 := cell_quiet hSw Kl0.out (by simp); have d1 := cell_quiet hSw Kl1.out (by simp); have d2 := cell_quiet hSw Kl2.out (by simp); have d3 := cell_quiet hSw Kl3.out (by simp); have d4 := cell_quiet hSw Kl4.out (by simp); have d5 := cell_quiet hSw Kl5.out (by simp); have d6 := cell_quiet hSw Kl6.out (by simp); have d7 := cell_quiet hSw Kl7.out (by simp); go_simp; try with_reducible rfl)
                    try simp only [Act.put, List.setIfInBounds_toArray, List.set_cons_zero, List.set_cons_succ, List.getElem_toArray, List.getElem_cons_succ, List.getElem_cons_zero]
                    refine wpAnyH_ready (rs := [16]) (by kernel_rfl) (by simp) (AllReadyH.cons rfl (fun K hK => ?_) AllReadyH.nil)
                    go_simp
                    refine samelevel_r (b := true) (p := x) (q := x) (Lib.hid (Pn.simV_refl true x)) (Lib.hid (Ta.out.keep hHeld (TyB.nil _ _ _))) (Lib.hid (Tb.out.keep hHeld (TyB.nil _ _ _))) (fun w9 hcx => ?_)
                    refine hK.out _ _ (hHeld.trans hcx (by simp)) (fun hHeld => ?_)
                    clear hK K
                    try simp only [Act.put, List.setIfInBounds_toArray, List.set_cons_zero, List.set_cons_succ, List.getElem_toArray, List.getElem_cons_succ, List.getElem_cons_zero]
                    refine wpAnyH_take (i := 17) (v := ?ve17) rfl (by kernel_rfl) (by kernel_rfl) (by kernel_rfl) (fun _ _ _ h => h) (Or.inl ⟨by kernel_rfl, ?hye17⟩) (by assumption) ?rse17
                    case hye17 => (intro w9 hSw; skip; go_simp; try with_reducible rfl)
                    try simp only [Act.put, List.setIfInBounds_toArray, List.set_cons_zero, List.set_cons_succ, List.getElem_toArray, List.getElem_cons_succ, List.getElem_cons_zero]
                    refine wpAnyH_take (i := 18) (v := ?ve18) rfl (by kernel_rfl) (by kernel_rfl) (by kernel_rfl) (fun _ _ _ h => h) (Or.inl ⟨by kernel_rfl, ?hye18⟩) (by assumption) ?rse18
                    case hye18 => (intro w9 hSw; skip; go_simp; try with_reducible rfl)
                    try simp only [Act.put, List.setIfInBounds_toArray, List.set_cons_zero, List.set_cons_succ, List.getElem_toArray, List.getElem_cons_succ, List.getElem_cons_zero]
                    refine wpAnyH_take (i := 19) (v := ?ve19) rfl (by kernel_rfl) (by kernel_rfl) (by kernel_rfl) (fun _ _ _ h => h) (Or.inl ⟨by kernel_rfl, ?hye19⟩) (by assumption) ?rse19
                    case hye19 => (intro w9 hSw; skip; go_simp; try with_reducible rfl)
                    try simp only [Act.put, List.setIfInBounds_toArray, List.set_cons_zero, List.set_cons_succ, List.getElem_toArray, List.getElem_cons_succ, List.getElem_cons_zero]
                    refine wpAnyH_take (i := 20) (v := ?ve20) rfl (by kernel_rfl) (by kernel_rfl) (by kernel_rfl) (fun _ _ _ h => h) (Or.inl ⟨by kernel_rfl, ?hye20⟩) (by assumption) ?rse20
                    case hye20 => (intro w9 hSw; skip; go_simp; try with_reducible rfl)
                    try simp only [Act.put, List.setIfInBounds_toArray, List.set_cons_zero, List.set_cons_succ, List.getElem_toArray, List.getElem_cons_succ, List.getElem_cons_zero]
                    refine wpAnyH_take (i := 21) (v := ?ve21) rfl (by kernel_rfl) (by kernel_rfl) (by kernel_rfl) (fun _ _ _ h => h) (Or.inl ⟨by kernel_rfl, ?hye21⟩) (by assumption) ?rse21
                    case hye21 => (intro w9 hSw; skip; go_simp; try with_reducible rfl)
                    try simp only [Act.put, List.setIfInBounds_toArray, List.set_cons_zero, List.set_cons_succ, List.getElem_toArray, List.getElem_cons_succ, List.getElem_cons_zero]
                    refine wpAnyH_take (i := 22) (v := ?ve22) rfl (by kernel_rfl) (by kernel_rfl) (by kernel_rfl) (fun _ _ _ h => h) (Or.inl ⟨by kernel_rfl, ?hye22⟩) (by assumption) ?rse22
                    case hye22 => (intro w9 hSw; have d := cell_quiet hSw X3.out (by simp); go_simp; try with_reducible rfl)
                    try simp only [Act.put, List.setIfInBounds_toArray, List.set_cons_zero, List.set_cons_succ, List.getElem_toArray, List.getElem_cons_succ, List.getElem_cons_zero]
                    refine wpAnyH_take (i := 23) (v := ?ve23) rfl (by kernel_rfl) (by kernel_rfl) (by kernel_rfl) (fun _ _ _ h => h) (Or.inl ⟨by kernel_rfl, ?hye23⟩) (by assumption) ?rse23
                    case hye23 => (intro w9 hSw; skip; go_simp; try with_reducible rfl)
                    try simp only [Act.put, List.setIfInBounds_toArray, List.set_cons_zero, List.set_cons_succ, List.getElem_toArray, List.getElem_cons_succ, List.getElem_cons_zero]
                    refine wpAnyH_take (i := 24) (v := ?ve24) rfl (by kernel_rfl) (by kernel_rfl) (by kernel_rfl) (fun _ _ _ h => h) (Or.inl ⟨by kernel_rfl, ?hye24⟩) (by assumption) ?rse24
                    case hye24 => (intro w9 hSw; skip; go_simp; try with_reducible rfl)
                    try simp only [Act.put, List.setIfInBounds_toArray, List.set_cons_zero, List.set_cons_succ, List.getElem_toArray, List.getElem_cons_succ, List.getElem_cons_zero]
                    refine wpAnyH_take (i := 25) (v := ?ve25) rfl (by kernel_rfl) (by kernel_rfl) (by kernel_rfl) (fun _ _ _ h => h) (Or.inl ⟨by kernel_rfl, ?hye25⟩) (by assumption) ?rse25
                    case hye25 => (intro w9 hSw; skip; go_simp; try with_reducible rfl)
                    try simp only [Act.put, List.setIfInBounds_toArray, List.set_cons_zero, List.set_cons_succ, List.getElem_toArray, List.getElem_cons_succ, List.getElem_cons_zero]
                    refine wpAnyH_take (i := 26) (v := undef) rfl (by kernel_rfl) (by kernel_rfl) (by kernel_rfl) (fun _ _ _ h => h) (Or.inr ⟨by kernel_rfl, rfl⟩) (by assumption) ?rse26
                    try simp only [Act.put, List.setIfInBounds_toArray, List.set_cons_zero, List.set_cons_succ, List.getElem_toArray, List.getElem_cons_succ, List.getElem_cons_zero]
                    refine wpAnyH_take (i := 27) (v := undef) rfl (by kernel_rfl) (by kernel_rfl) (by kernel_rfl) (fun _ _ _ h => h) (Or.inr ⟨by kernel_rfl, rfl⟩) (by assumption) ?rse27
                    try simp only [Act.put, List.setIfInBounds_toArray, List.set_cons_zero, List.set_cons_succ, List.getElem_toArray, List.getElem_cons_succ, List.getElem_cons_zero]
                    refine wpAnyH_take (i := 28) (v := undef) rfl (by kernel_rfl) (by kernel_rfl) (by kernel_rfl) (fun _ _ _ h => h) (Or.inr ⟨by kernel_rfl, rfl⟩) (by assumption) ?rse28
                    try simp only [Act.put, List.setIfInBounds_toArray, List.set_cons_zero, List.set_cons_succ, List.getElem_toArray, List.getElem_cons_succ, List.getElem_cons_zero]
                    refine wpAnyH_take (i := 29) (v := undef) rfl (by kernel_rfl) (by kernel_rfl) (by kernel_rfl) (fun _ _ _ h => h) (Or.inr ⟨by kernel_rfl, rfl⟩) (by assumption) ?rse29
                    try simp only [Act.put, List.setIfInBounds_toArray, List.set_cons_zero, List.set_cons_succ, List.getElem_toArray, List.getElem_cons_succ, List.getElem_cons_zero]
                    refine wpAnyH_take (i := 30) (v := undef) rfl (by kernel_rfl) (by kernel_rfl) (by kernel_rfl) (fun _ _ _ h => h) (Or.inr ⟨by kernel_rfl, rfl⟩) (by assumption) ?rse30
                    try simp only [Act.put, List.setIfInBounds_toArray, List.set_cons_zero, List.set_cons_succ, List.getElem_toArray, List.getElem_cons_succ, List.getElem_cons_zero]
                    refine wpAnyH_take (i := 31) (v := undef) rfl (by kernel_rfl) (by kernel_rfl) (by kernel_rfl) (fun _ _ _ h => h) (Or.inr ⟨by kernel_rfl, rfl⟩) (by assumption) ?rse31
                    try simp only [Act.put, List.setIfInBounds_toArray, List.set_cons_zero, List.set_cons_succ, List.getElem_toArray, List.getElem_cons_succ, List.getElem_cons_zero]
                    refine wpAnyH_take (i := 32) (v := undef) rfl (by kernel_rfl) (by kernel_rfl) (by kernel_rfl) (fun _ _ _ h => h) (Or.inr ⟨by kernel_rfl, rfl⟩) (by assumption) ?rse32
                    try simp only [Act.put, List.setIfInBounds_toArray, List.set_cons_zero, List.set_cons_succ, List.getElem_toArray, List.getElem_cons_succ, List.getElem_cons_zero]
                    refine wpAnyH_take (i := 33) (v := undef) rfl (by kernel_rfl) (by kernel_rfl) (by kernel_rfl) (fun _ _ _ h => h) (Or.inr ⟨by kernel_rfl, rfl⟩) (by assumption) ?rse33
                    try simp only [Act.put, List.setIfInBounds_toArray, List.set_cons_zero, List.set_cons_succ, List.getElem_toArray, List.getElem_cons_succ, List.getElem_cons_zero]
                    refine wpAnyH_take (i := 34) (v := undef) rfl (by kernel_rfl) (by kernel_rfl) (by kernel_rfl) (fun _ _ _ h => h) (Or.inr ⟨by kernel_rfl, rfl⟩) (by assumption) ?rse34
                    try simp only [Act.put, List.setIfInBounds_toArray, List.set_cons_zero, List.set_cons_succ, List.getElem_toArray, List.getElem_cons_succ, List.getElem_cons_zero]
                    refine wpAnyH_take (i := 35) (v := undef) rfl (by kernel_rfl) (by kernel_rfl) (by kernel_rfl) (fun _ _ _ h => h) (Or.inr ⟨by kernel_rfl, rfl⟩) (by assumption) ?rse35
                    try simp only [Act.put, List.setIfInBounds_toArray, List.set_cons_zero, List.set_cons_succ, List.getElem_toArray, List.getElem_cons_succ, List.getElem_cons_zero]
                    refine wpAnyH_take (i := 36) (v := undef) rfl (by kernel_rfl) (by kernel_rfl) (by kernel_rfl) (fun _ _ _ h => h) (Or.inr ⟨by kernel_rfl, rfl⟩) (by assumption) ?rse36
                    try simp only [Act.put, List.setIfInBounds_toArray, List.set_cons_zero, List.set_cons_succ, List.getElem_toArray, List.getElem_cons_succ, List.getElem_cons_zero]
                    refine wpAnyH_take (i := 37) (v := undef) rfl (by kernel_rfl) (by kernel_rfl) (by kernel_rfl) (fun _ _ _ h => h) (Or.inr ⟨by kernel_rfl, rfl⟩) (by assumption) ?rse37
                    try simp only [Act.put, List.setIfInBounds_toArray, List.set_cons_zero, List.set_cons_succ, List.getElem_toArray, List.getElem_cons_succ, List.getElem_cons_zero]
                    refine wpAnyH_take (i := 38) (v := undef) rfl (by kernel_rfl) (by kernel_rfl) (by kernel_rfl) (fun _ _ _ h => h) (Or.inr ⟨by kernel_rfl, rfl⟩) (by assumption) ?rse38
                    try simp only [Act.put, List.setIfInBounds_toArray, List.set_cons_zero, List.set_cons_succ, List.getElem_toArray, List.getElem_cons_succ, List.getElem_cons_zero]
                    refine wpAnyH_take (i := 39) (v := undef) rfl (by kernel_rfl) (by kernel_rfl) (by kernel_rfl) (fun _ _ _ h => h) (Or.inr ⟨by kernel_rfl, rfl⟩) (by assumption) ?rse39
                    try simp only [Act.put, List.setIfInBounds_toArray, List.set_cons_zero, List.set_cons_succ, List.getElem_toArray, List.getElem_cons_succ, List.getElem_cons_zero]
                    refine wpAnyH_take (i := 40) (v := undef) rfl (by kernel_rfl) (by kernel_rfl) (by kernel_rfl) (fun _ _ _ h => h) (Or.inr ⟨by kernel_rfl, rfl⟩) (by assumption) ?rse40
                    try simp only [Act.put, List.setIfInBounds_toArray, List.set_cons_zero, List.set_cons_succ, List.getElem_toArray, List.getElem_cons_succ, List.getElem_cons_zero]
                    refine wpAnyH_take (i := 41) (v := undef) rfl (by kernel_rfl) (by kernel_rfl) (by kernel_rfl) (fun _ _ _ h => h) (Or.inr ⟨by kernel_rfl, rfl⟩) (by assumption) ?rse41
                    try simp only [Act.put, List.setIfInBounds_toArray, List.set_cons_zero, List.set_cons_succ, List.getElem_toArray, List.getElem_cons_succ, List.getElem_cons_zero]
                    refine wpAnyH_take (i := 42) (v := ?ve42) rfl (by kernel_rfl) (by kernel_rfl) (by kernel_rfl) (fun _ _ _ h => h) (Or.inl ⟨by kernel_rfl, ?hye42⟩) (by assumption) ?rse42
                    case hye42 => (intro w9 hSw; skip; go_simp; try with_reducible rfl)
                    try simp only [Act.put, List.setIfInBounds_toArray, List.set_cons_zero, List.set_cons_succ, List.getElem_toArray, List.getElem_cons_succ, List.getElem_cons_zero]
                    refine wpAnyH_take (i := 43) (v := ?ve43) rfl (by kernel_rfl) (by kernel_rfl) (by kernel_rfl) (fun _ _ _ h => h) (Or.inl ⟨by kernel_rfl, ?hye43⟩) (by assumption) ?rse43
                    case hye43 => (intro w9 hSw; skip; go_simp; try with_reducible rfl)
                    try simp only [Act.put, List.setIfInBounds_toArray, List.set_cons_zero, List.set_cons_succ, List.getElem_toArray, List.getElem_cons_succ, List.getElem_cons_zero]
                    refine wpAnyH_done (by kernel_rfl) ?_ _
                    try simp only [Act.put, List.setIfInBounds_toArray, List.set_cons_zero, List.set_cons_succ, List.getElem_toArray, List.getElem_cons_succ, List.getElem_cons_zero]
                    have HH9 := Lib.hid hHeld
                    clear hHeld hcx
                    have HC10 : Hid (Chg [] vc w9) := Lib.hid (HCR.out.trans HH9.out (by simp))
                    go_wp2_with fail
                    refine ⟨?_, by simp [intN]; omega⟩
                    first | exact ⟨j + 1, vintP (by omega), by omega, HC10⟩ | ((repeat apply Exists.intro); exact ⟨⟨j + 1, vintP (by omega), by omega, HC10⟩, rfl⟩)
                  · obtain ⟨i, hi⟩ : ∃ i, i = j - n1 := ⟨_, rfl⟩
                    have hn2 : i < n2 := by have := HN9.out; omega
                    obtain ⟨x, y, hx, hy, hsim⟩ := HG3.out.at (i := i) (by rw [HG3.out.1, HPB.out, ← HNM.out]; exact hn2)
                    rw [HPB.out] at hy
                    have HSI := Lib.hid hsim
                    have hx8 : (p.levels ++ L)[j]? = some x := by rw [List.getElem?_append_right (by rw [← HNL.out]; omega), ← HNL.out, ← hi]; exact hx
                    obtain ⟨ga, cpa, p1a, s1a, p2a, s2a, p3a, s3a, p4a, s4a, p5a, s5a, eva, eca, t1a, t2a, t3a, t4a, t5a, k0, k1, k2, k3, k4, k5, k6, k7⟩ := lev_get (HLR.out.keep (kp_lv _) HCR.out (TyB.nil _ _ _)) hx8
                    obtain ⟨gb, cpb, p1b, s1b, p2b, s2b, p3b, s3b, p4b, s4b, p5b, s5b, evb, ecb, t1b, t2b, t3b, t4b, t5b, l0, l1, l2, l3, l4, l5, l6, l7⟩ := lev_get (HQ9.out.keep (kp_lv _) HCR.out (TyB.nil _ _ _)) hy
                    rw [← HN8.out] at eva eca
                    rw [← HNM.out] at evb ecb
                    simp only [Value.slice.injEq, true_and] at eva evb
                    obtain ⟨rfl, rfl⟩ := eva
                    obtain ⟨rfl, rfl⟩ := evb
                    have Ta : Hid (LvL VB x (.slice p1a x.blocks.length s1a) (.slice p2a x.areas.length s2a) (.slice p3a x.aisles.length s3a) (.slice p4a x.pillars.length s4a) (.slice p5a x.doors.length s5a) wr) := Lib.hid ⟨t1a, t2a, t3a, t4a, t5a⟩
                    have Tb : Hid (LvL W2.heap.size y (.slice p1b y.blocks.length s1b) (.slice p2b y.areas.length s2b) (.slice p3b y.aisles.length s3b) (.slice p4b y.pillars.length s4b) (.slice p5b y.doors.length s5b) wr) := Lib.hid ⟨t1b, t2b, t3b, t4b, t5b⟩
                    have q3 : ¬ (j : Int) < (n1 : Int) := by omega
                    have q4 : (i : Int) ≤ (capq : Int) := by omega
                    have q5 : (n1 : Int) ≤ (j : Int) := by omega
                    have q6 : IntKind.i64.wrap ((j : Int) - (n1 : Int)) = (i : Int) := by rw [IntWalk.i64_in _ (by have h1 := HN9.out; have h2 := HBD.out; omega)]; omega
                    have q7 : (0 : Int) ≤ (i : Int) := by omega
                    have q8 : (i : Int) < (n2 : Int) := by omega
                    have qi : ((i : Int)).toNat = i := by omega
                    clear hx hy hsim hx8 eca ecb hi hn2 t1a t2a t3a t4a t5a t1b t2b t3b t4b t5b
                    have Kk0 := Lib.hid k0
                    have Kk1 := Lib.hid k1
                    have Kk2 := Lib.hid k2
                    have Kk3 := Lib.hid k3
                    have Kk4 := Lib.hid k4
                    have Kk5 := Lib.hid k5
                    have Kk6 := Lib.hid k6
                    have Kk7 := Lib.hid k7
                    have Kl0 := Lib.hid l0
                    have Kl1 := Lib.hid l1
                    have Kl2 := Lib.hid l2
                    have Kl3 := Lib.hid l3
                    have Kl4 := Lib.hid l4
                    have Kl5 := Lib.hid l5
                    have Kl6 := Lib.hid l6
                    have Kl7 := Lib.hid l7
                    clear k0 k1 k2 k3 k4 k5 k6 k7 l0 l1 l2 l3 l4 l5 l6 l7
                    go_upto_region 21 with fail
                    clear y3
                    refine wp_region_held_drew (S := fun W' => Chg [] wr W') (by kernel_rfl) (Chg.refl _ _).drew (fun hHeld => ?_)
                    refine wpAnyH_take (i := 0) (v := ?ved0) rfl (by kernel_rfl) (by kernel_rfl) (by kernel_rfl) (fun _ _ _ h => h) (Or.inl ⟨by kernel_rfl, ?hyed0⟩) (by assumption) ?rsed0
                    case hyed0 => (intro w9 hSw; skip; go_simp; try with_reducible rfl)
                    try simp only [Act.put, List.setIfInBounds_toArray, List.set_cons_zero, List.set_cons_succ, List.getElem_toArray, List.getElem_cons_succ, List.getElem_cons_zero]
                    refine wpAnyH_take (i := 1) (v := ?ved1) rfl (by kernel_rfl) (by kernel_rfl) (by kernel_rfl) (fun _ _ _ h => h) (Or.inl ⟨by kernel_rfl, ?hyed1⟩) (by assumption) ?rsed1
                    case hyed1 => (intro w9 hSw; skip; go_simp; try with_reducible rfl)
                    try simp only [Act.put, List.setIfInBounds_toArray, List.set_cons_zero, List.set_cons_succ, List.getElem_toArray, List.getElem_cons_succ, List.getElem_cons_zero]
                    refine wpAnyH_take (i := 2) (v := ?ved2) rfl (by kernel_rfl) (by kernel_rfl) (by kernel_rfl) (fun _ _ _ h => h) (Or.inl ⟨by kernel_rfl, ?hyed2⟩) (by assumption) ?rsed2
                    case hyed2 => (intro w9 hSw; have d := cell_quiet hSw X3.out (by simp); go_simp; try with_reducible rfl)
                    try simp only [Act.put, List.setIfInBounds_toArray, List.set_cons_zero, List.set_cons_succ, List.getElem_toArray, List.getElem_cons_succ, List.getElem_cons_zero]
                    refine wpAnyH_take (i := 3) (v := ?ved3) rfl (by kernel_rfl) (by kernel_rfl) (by kernel_rfl) (fun _ _ _ h => h) (Or.inl ⟨by kernel_rfl, ?hyed3⟩) (by assumption) ?rsed3
                    case hyed3 => (intro w9 hSw; skip; go_simp; try with_reducible rfl)
                    try simp only [Act.put, List.setIfInBounds_toArray, List.set_cons_zero, List.set_cons_succ, List.getElem_toArray, List.getElem_cons_succ, List.getElem_cons_zero]
                    refine wpAnyH_take (i := 4) (v := ?ved4) rfl (by kernel_rfl) (by kernel_rfl) (by kernel_rfl) (fun _ _ _ h => h) (Or.inl ⟨by kernel_rfl, ?hyed4⟩) (by assumption) ?rsed4
                    case hyed4 => (intro w9 hSw; skip; go_simp; try with_reducible rfl)
                    try simp only [Act.put, List.setIfInBounds_toArray, List.set_cons_zero, List.set_cons_succ, List.getElem_toArray, List.getElem_cons_succ, List.getElem_cons_zero]
                    refine wpAnyH_take (i := 5) (v := ?ved5) rfl (by kernel_rfl) (by kernel_rfl) (by kernel_rfl) (fun _ _ _ h => h) (Or.inl ⟨by kernel_rfl, ?hyed5⟩) (by assumption) ?rsed5
                    case hyed5 => (intro w9 hSw; skip; go_simp; try with_reducible rfl)
                    try simp only [Act.put, List.setIfInBounds_toArray, List.set_cons_zero, List.set_cons_succ, List.getElem_toArray, List.getElem_cons_succ, List.getElem_cons_zero]
                    refine wpAnyH_take (i := 6) (v := undef) rfl (by kernel_rfl) (by kernel_rfl) (by kernel_rfl) (fun _ _ _ h => h) (Or.inr ⟨by kernel_rfl, rfl⟩) (by assumption) ?rsed6
                    try simp only [Act.put, List.setIfInBounds_toArray, List.set_cons_zero, List.set_cons_succ, List.getElem_toArray, List.getElem_cons_succ, List.getElem_cons_zero]
                    refine wpAnyH_take (i := 7) (v := undef) rfl (by kernel_rfl) (by kernel_rfl) (by kernel_rfl) (fun _ _ _ h => h) (Or.inr ⟨by kernel_rfl, rfl⟩) (by assumption) ?rsed7
                    try simp only [Act.put, List.setIfInBounds_toArray, List.set_cons_zero, List.set_cons_succ, List.getElem_toArray, List.getElem_cons_succ, List.getElem_cons_zero]
                    refine wpAnyH_take (i := 8) (v := undef) rfl (by kernel_rfl) (by kernel_rfl) (by kernel_rfl) (fun _ _ _ h => h) (Or.inr ⟨by kernel_rfl, rfl⟩) (by assumption) ?rsed8
                    try simp only [Act.put, List.setIfInBounds_toArray, List.set_cons_zero, List.set_cons_succ, List.getElem_toArray, List.getElem_cons_succ, List.getElem_cons_zero]
                    refine wpAnyH_take (i := 9) (v := undef) rfl (by kernel_rfl) (by kernel_rfl) (by kernel_rfl) (fun _ _ _ h => h) (Or.inr ⟨by kernel_rfl, rfl⟩) (by assumption) ?rsed9
                    try simp only [Act.put, List.setIfInBounds_toArray, List.set_cons_zero, List.set_cons_succ, List.getElem_toArray, List.getElem_cons_succ, List.getElem_cons_zero]
                    refine wpAnyH_take (i := 10) (v := undef) rfl (by kernel_rfl) (by kernel_rfl) (by kernel_rfl) (fun _ _ _ h => h) (Or.inr ⟨by kernel_rfl, rfl⟩) (by assumption) ?rsed10
                    try simp only [Act.put, List.setIfInBounds_toArray, List.set_cons_zero, List.set_cons_succ, List.getElem_toArray, List.getElem_cons_succ, List.getElem_cons_zero]
                    refine wpAnyH_take (i := 11) (v := undef) rfl (by kernel_rfl) (by kernel_rfl) (by kernel_rfl) (fun _ _ _ h => h) (Or.inr ⟨by kernel_rfl, rfl⟩) (by assumption) ?rsed11
                    try simp only [Act.put, List.setIfInBounds_toArray, List.set_cons_zero, List.set_cons_succ, List.getElem_toArray, List.getElem_cons_succ, List.getElem_cons_zero]
                    refine wpAnyH_take (i := 12) (v := undef) rfl (by kernel_rfl) (by kernel_rfl) (by kernel_rfl) (fun _ _ _ h => h) (Or.inr ⟨by kernel_rfl, rfl⟩) (by assumption) ?rsed12
                    try simp only [Act.put, List.setIfInBounds_toArray, List.set_cons_zero, List.set_cons_succ, List.getElem_toArray, List.getElem_cons_succ, List.getElem_cons_zero]
                    refine wpAnyH_take (i := 13) (v := undef) rfl (by kernel_rfl) (by kernel_rfl) (by kernel_rfl) (fun _ _ _ h => h) (Or.inr ⟨by kernel_rfl, rfl⟩) (by assumption) ?rsed13
                    try simp only [Act.put, List.setIfInBounds_toArray, List.set_cons_zero, List.set_cons_succ, List.getElem_toArray, List.getElem_cons_succ, List.getElem_cons_zero]
                    refine wpAnyH_take (i := 14) (v := undef) rfl (by kernel_rfl) (by kernel_rfl) (by kernel_rfl) (fun _ _ _ h => h) (Or.inr ⟨by kernel_rfl, rfl⟩) (by assumption) ?rsed14
                    try simp only [Act.put, List.setIfInBounds_toArray, List.set_cons_zero, List.set_cons_succ, List.getElem_toArray, List.getElem_cons_succ, List.getElem_cons_zero]
                    refine wpAnyH_take (i := 15) (v := undef) rfl (by kernel_rfl) (by kernel_rfl) (by kernel_rfl) (fun _ _ _ h => h) (Or.inr ⟨by kernel_rfl, rfl⟩) (by assumption) ?rsed15
                    try simp only [Act.put, List.setIfInBounds_toArray, List.set_cons_zero, List.set_cons_succ, List.getElem_toArray, List.getElem_cons_succ, List.getElem_cons_zero]
                    refine wpAnyH_take (i := 16) (v := undef) rfl (by kernel_rfl) (by kernel_rfl) (by kernel_rfl) (fun _ _ _ h => h) (Or.inr ⟨by kernel_rfl, rfl⟩) (by assumption) ?rsed16
                    try simp only [Act.put, List.setIfInBounds_toArray, List.set_cons_zero, List.set_cons_succ, List.getElem_toArray, List.getElem_cons_succ, List.getElem_cons_zero]
                    refine wpAnyH_take (i := 17) (v := undef) rfl (by kernel_rfl) (by kernel_rfl) (by kernel_rfl) (fun _ _ _ h => h) (Or.inr ⟨by kernel_rfl, rfl⟩) (by assumption) ?rsed17
                    try simp only [Act.put, List.setIfInBounds_toArray, List.set_cons_zero, List.set_cons_succ, List.getElem_toArray, List.getElem_cons_succ, List.getElem_cons_zero]
                    refine wpAnyH_take (i := 18) (v := ?ved18) rfl (by kernel_rfl) (by kernel_rfl) (by kernel_rfl) (fun _ _ _ h => h) (Or.inl ⟨by kernel_rfl, ?hyed18⟩) (by assumption) ?rsed18
                    case hyed18 => (intro w9 hSw; skip; go_simp; try with_reducible rfl)
                    try simp only [Act.put, List.setIfInBounds_toArray, List.set_cons_zero, List.set_cons_succ, List.getElem_toArray, List.getElem_cons_succ, List.getElem_cons_zero]
                    refine wpAnyH_take (i := 19) (v := ?ved19) rfl (by kernel_rfl) (by kernel_rfl) (by kernel_rfl) (fun _ _ _ h => h) (Or.inl ⟨by kernel_rfl, ?hyed19⟩) (by assumption) ?rsed19
                    case hyed19 => (intro w9 hSw; skip; go_simp; try with_reducible rfl)
                    try simp only [Act.put, List.setIfInBounds_toArray, List.set_cons_zero, List.set_cons_succ, List.getElem_toArray, List.getElem_cons_succ, List.getElem_cons_zero]
                    refine wpAnyH_take (i := 20) (v := ?ved20) rfl (by kernel_rfl) (by kernel_rfl) (by kernel_rfl) (fun _ _ _ h => h) (Or.inl ⟨by kernel_rfl, ?hyed20⟩) (by assumption) ?rsed20
                    case hyed20 => (intro w9 hSw; skip; go_simp; try with_reducible rfl)
                    try simp only [Act.put, List.setIfInBounds_toArray, List.set_cons_zero, List.set_cons_succ, List.getElem_toArray, List.getElem_cons_succ, List.getElem_cons_zero]
                    refine wpAnyH_take (i := 21) (v := ?ved21) rfl (by kernel_rfl) (by kernel_rfl) (by kernel_rfl) (fun _ _ _ h => h) (Or.inl ⟨by kernel_rfl, ?hyed21⟩) (by assumption) ?rsed21
                    case hyed21 => (intro w9 hSw; skip; go_simp; try with_reducible rfl)
                    try simp only [Act.put, List.setIfInBounds_toArray, List.set_cons_zero, List.set_cons_succ, List.getElem_toArray, List.getElem_cons_succ, List.getElem_cons_zero]
                    refine wpAnyH_take (i := 22) (v := ?ved22) rfl (by kernel_rfl) (by kernel_rfl) (by kernel_rfl) (fun _ _ _ h => h) (Or.inl ⟨by kernel_rfl, ?hyed22⟩) (by assumption) ?rsed22
                    case hyed22 => (intro w9 hSw; have d := cell_quiet hSw X3.out (by simp); go_simp; try with_reducible rfl)
                    try simp only [Act.put, List.setIfInBounds_toArray, List.set_cons_zero, List.set_cons_succ, List.getElem_toArray, List.getElem_cons_succ, List.getElem_cons_zero]
                    refine wpAnyH_take (i := 23) (v := ?ved23) rfl (by kernel_rfl) (by kernel_rfl) (by kernel_rfl) (fun _ _ _ h => h) (Or.inl ⟨by kernel_rfl, ?hyed23⟩) (by assumption) ?rsed23
                    case hyed23 => (intro w9 hSw; skip; go_simp; try with_reducible rfl)
                    try simp only [Act.put, List.setIfInBounds_toArray, List.set_cons_zero, List.set_cons_succ, List.getElem_toArray, List.getElem_cons_succ, List.getElem_cons_zero]
                    refine wpAnyH_take (i := 24) (v := ?ved24) rfl (by kernel_rfl) (by kernel_rfl) (by kernel_rfl) (fun _ _ _ h => h) (Or.inl ⟨by kernel_rfl, ?hyed24⟩) (by assumption) ?rsed24
                    case hyed24 => (intro w9 hSw; skip; go_simp; try with_reducible rfl)
                    try simp only [Act.put, List.setIfInBounds_toArray, List.set_cons_zero, List.set_cons_succ, List.getElem_toArray, List.getElem_cons_succ, List.getElem_cons_zero]
                    refine wpAnyH_take (i := 25) (v := ?ved25) rfl (by kernel_rfl) (by kernel_rfl) (by kernel_rfl) (fun _ _ _ h => h) (Or.inl ⟨by kernel_rfl, ?hyed25⟩) (by assumption) ?rsed25
                    case hyed25 => (intro w9 hSw; skip; go_simp; try with_reducible rfl)
                    try simp only [Act.put, List.setIfInBounds_toArray, List.set_cons_zero, List.set_cons_succ, List.getElem_toArray, List.getElem_cons_succ, List.getElem_cons_zero]
                    refine wpAnyH_take (i := 26) (v := ?ved26) rfl (by kernel_rfl) (by kernel_rfl) (by kernel_rfl) (fun _ _ _ h => h) (Or.inl ⟨by kernel_rfl, ?hyed26⟩) (by assumption) ?rsed26
                    case hyed26 => (intro w9 hSw; skip; go_simp; try with_reducible rfl)
                    try simp only [Act.put, List.setIfInBounds_toArray, List.set_cons_zero, List.set_cons_succ, List.getElem_toArray, List.getElem_cons_succ, List.getElem_cons_zero]
                    refine wpAnyH_take (i := 27) (v := ?ved27) rfl (by kernel_rfl) (by kernel_rfl) (by kernel_rfl) (fun _ _ _ h => h) (Or.inl ⟨by kernel_rfl, ?hyed27⟩) (by assumption) ?rsed27
                    case hyed27 => (intro w9 hSw; have d := cell_quiet hSw Y3.out (by simp); go_simp; try with_reducible rfl)
                    try simp only [Act.put, List.setIfInBounds_toArray, List.set_cons_zero, List.set_cons_succ, List.getElem_toArray, List.getElem_cons_succ, List.getElem_cons_zero]
                    refine wpAnyH_take (i := 28) (v := ?ved28) rfl (by kernel_rfl) (by kernel_rfl) (by kernel_rfl) (fun _ _ _ h => h) (Or.inl ⟨by kernel_rfl, ?hyed28⟩) (by assumption) ?rsed28
                    case hyed28 => (intro w9 hSw; skip; go_simp; try with_reducible rfl)
                    try simp only [Act.put, List.setIfInBounds_toArray, List.set_cons_zero, List.set_cons_succ, List.getElem_toArray, List.getElem_cons_succ, List.getElem_cons_zero]
                    refine wpAnyH_take (i := 29) (v := ?ved29) rfl (by kernel_rfl) (by kernel_rfl) (by kernel_rfl) (fun _ _ _ h => h) (Or.inl ⟨by kernel_rfl, ?hyed29⟩) (by assumption) ?rsed29
                    case hyed29 => (intro w9 hSw; skip; go_simp; try with_reducible rfl)
                    try simp only [Act.put, List.setIfInBounds_toArray, List.set_cons_zero, List.set_cons_succ, List.getElem_toArray, List.getElem_cons_succ, List.getElem_cons_zero]
                    refine wpAnyH_take (i := 30) (v := ?ved30) rfl (by kernel_rfl) (by kernel_rfl) (by kernel_rfl) (fun _ _ _ h => h) (Or.inl ⟨by kernel_rfl, ?hyed30⟩) (by assumption) ?rsed30
                    case hyed30 => (intro w9 hSw; have d0 := cell_quiet hSw Kk0.out (by simp); have d1 := cell_quiet hSw Kk1.out (by simp); have d2 := cell_quiet hSw Kk2.out (by simp); have d3 := cell_quiet hSw Kk3.out (by simp); have d4 := cell_quiet hSw Kk4.out (by simp); have d5 := cell_quiet hSw Kk5.out (by simp); have d6 := cell_quiet hSw Kk6.out (by simp); have d7 := cell_quiet hSw Kk7.out (by simp); go_simp; try with_reducible rfl)
                    try simp only [Act.put, List.setIfInBounds_toArray, List.set_cons_zero, List.set_cons_succ, List.getElem_toArray, List.getElem_cons_succ, List.getElem_cons_zero]
                    refine wpAnyH_take (i := 31) (v := ?ved31) rfl (by kernel_rfl) (by kernel_rfl) (by kernel_rfl) (fun _ _ _ h => h) (Or.inl ⟨by kernel_rfl, ?hyed31⟩) (by assumption) ?rsed31
                    case hyed31 => (intro w9 hSw; skip; go_simp; try with_reducible rfl)
                    try simp only [Act.put, List.setIfInBounds_toArray, List.set_cons_zero, List.set_cons_succ, List.getElem_toArray, List.getElem_cons_succ, List.getElem_cons_zero]
                    refine wpAnyH_take (i := 32) (v := ?ved32) rfl (by kernel_rfl) (by kernel_rfl) (by kernel_rfl) (fun _ _ _ h => h) (Or.inl ⟨by kernel_rfl, ?hyed32⟩) (by assumption) ?rsed32
                    case hyed32 => (intro w9 hSw; have d := cell_quiet hSw Z3.out (by simp); go_simp; try with_reducible rfl)
                    try simp only [Act.put, List.setIfInBounds_toArray, List.set_cons_zero, List.set_cons_succ, List.getElem_toArray, List.getElem_cons_succ, List.getElem_cons_zero]
                    refine wpAnyH_take (i := 33) (v := ?ved33) rfl (by kernel_rfl) (by kernel_rfl) (by kernel_rfl) (fun _ _ _ h => h) (Or.inl ⟨by kernel_rfl, ?hyed33⟩) (by assumption) ?rsed33
                    case hyed33 => (intro w9 hSw; skip; go_simp; try with_reducible rfl)
                    try simp only [Act.put, List.setIfInBounds_toArray, List.set_cons_zero, List.set_cons_succ, List.getElem_toArray, List.getElem_cons_succ, List.getElem_cons_zero]
                    refine wpAnyH_take (i := 34) (v := ?ved34) rfl (by kernel_rfl) (by kernel_rfl) (by kernel_rfl) (fun _ _ _ h => h) (Or.inl ⟨by kernel_rfl, ?hyed34⟩) (by assumption) ?rsed34
                    case hyed34 => (intro w9 hSw; skip; go_simp; try with_reducible rfl)
                    try simp only [Act.put, List.setIfInBounds_toArray, List.set_cons_zero, List.set_cons_succ, List.getElem_toArray, List.getElem_cons_succ, List.getElem_cons_zero]
                    refine wpAnyH_take (i := 35) (v := ?ved35) rfl (by kernel_rfl) (by kernel_rfl) (by kernel_rfl) (fun _ _ _ h => h) (Or.inl ⟨by kernel_rfl, ?hyed35⟩) (by assumption) ?rsed35
                    case hyed35 => (intro w9 hSw; have d := cell_quiet hSw X3.out (by simp); go_simp; try with_reducible rfl)
                    try simp only [Act.put, List.setIfInBounds_toArray, List.set_cons_zero, List.set_cons_succ, List.getElem_toArray, List.getElem_cons_succ, List.getElem_cons_zero]
                    refine wpAnyH_take (i := 36) (v := ?ved36) rfl (by kernel_rfl) (by kernel_rfl) (by kernel_rfl) (fun _ _ _ h => h) (Or.inl ⟨by kernel_rfl, ?hyed36⟩) (by assumption) ?rsed36
                    case hyed36 => (intro w9 hSw; skip; go_simp; try with_reducible rfl)
                    try simp only [Act.put, List.setIfInBounds_toArray, List.set_cons_zero, List.set_cons_succ, List.getElem_toArray, List.getElem_cons_succ, List.getElem_cons_zero]
                    refine wpAnyH_take (i := 37) (v := ?ved37) rfl (by kernel_rfl) (by kernel_rfl) (by kernel_rfl) (fun _ _ _ h => h) (Or.inl ⟨by kernel_rfl, ?hyed37⟩) (by assumption) ?rsed37
                    case hyed37 => (intro w9 hSw; skip; go_simp; try with_reducible rfl)
                    try simp only [Act.put, List.setIfInBounds_toArray, List.set_cons_zero, List.set_cons_succ, List.getElem_toArray, List.getElem_cons_succ, List.getElem_cons_zero]
                    refine wpAnyH_take (i := 38) (v := ?ved38) rfl (by kernel_rfl) (by kernel_rfl) (by kernel_rfl) (fun _ _ _ h => h) (Or.inl ⟨by kernel_rfl, ?hyed38⟩) (by assumption) ?rsed38
                    case hyed38 => (intro w9 hSw; skip; go_simp; try with_reducible rfl)
                    try simp only [Act.put, List.setIfInBounds_toArray, List.set_cons_zero, List.set_cons_succ, List.getElem_toArray, List.getElem_cons_succ, List.getElem_cons_zero]
                    refine wpAnyH_take (i := 39) (v := ?ved39) rfl (by kernel_rfl) (by kernel_rfl) (by kernel_rfl) (fun _ _ _ h => h) (Or.inl ⟨by kernel_rfl, ?hyed39⟩) (by assumption) ?rsed39
                    case hyed39 => (intro w9 hSw; have d0 := cell_quiet hSw Kl0.out (by simp); have d1 := cell_quiet hSw Kl1.out (by simp); have d2 := cell_quiet hSw Kl2.out (by simp); have d3 := cell_quiet hSw Kl3.out (by simp); have d4 := cell_quiet hSw Kl4.out (by simp); have d5 := cell_quiet hSw Kl5.out (by simp); have d6 := cell_quiet hSw Kl6.out (by simp); have d7 := cell_quiet hSw Kl7.out (by simp); go_simp; try with_reducible rfl)
                    try simp only [Act.put, List.setIfInBounds_toArray, List.set_cons_zero, List.set_cons_succ, List.getElem_toArray, List.getElem_cons_succ, List.getElem_cons_zero]
                    refine wpAnyH_ready (rs := [40]) (by kernel_rfl) (by simp) (AllReadyH.cons rfl (fun K hK => ?_) AllReadyH.nil)
                    go_simp
                    refine samelevel_r (b := false) (p := x) (q := y) HSI (Lib.hid (Ta.out.keep hHeld (TyB.nil _ _ _))) (Lib.hid (Tb.out.keep hHeld (TyB.nil _ _ _))) (fun w9 hcx => ?_)
                    refine hK.out _ _ (hHeld.trans hcx (by simp)) (fun hHeld => ?_)
                    clear hK K
                    try simp only [Act.put, List.setIfInBounds_toArray, List.set_cons_zero, List.set_cons_succ, List.getElem_toArray, List.getElem_cons_succ, List.getElem_cons_zero]
                    refine wpAnyH_take (i := 41) (v := ?ved41) rfl (by kernel_rfl) (by kernel_rfl) (by kernel_rfl) (fun _ _ _ h => h) (Or.inl ⟨by kernel_rfl, ?hyed41⟩) (by assumption) ?rsed41
                    case hyed41 => (intro w9 hSw; skip; go_simp; try with_reducible rfl)
                    try simp only [Act.put, List.setIfInBounds_toArray, List.set_cons_zero, List.set_cons_succ, List.getElem_toArray, List.getElem_cons_succ, List.getElem_cons_zero]
                    refine wpAnyH_take (i := 42) (v := ?ved42) rfl (by kernel_rfl) (by kernel_rfl) (by kernel_rfl) (fun _ _ _ h => h) (Or.inl ⟨by kernel_rfl, ?hyed42⟩) (by assumption) ?rsed42
                    case hyed42 => (intro w9 hSw; skip; go_simp; try with_reducible rfl)
                    try simp only [Act.put, List.setIfInBounds_toArray, List.set_cons_zero, List.set_cons_succ, List.getElem_toArray, List.getElem_cons_succ, List.getElem_cons_zero]
                    refine wpAnyH_take (i := 43) (v := ?ved43) rfl (by kernel_rfl) (by kernel_rfl) (by kernel_rfl) (fun _ _ _ h => h) (Or.inl ⟨by kernel_rfl, ?hyed43⟩) (by assumption) ?rsed43
                    case hyed43 => (intro w9 hSw; skip; go_simp; try with_reducible rfl)
                    try simp only [Act.put, List.setIfInBounds_toArray, List.set_cons_zero, List.set_cons_succ, List.getElem_toArray, List.getElem_cons_succ, List.getElem_cons_zero]
                    refine wpAnyH_done (by kernel_rfl) ?_ _
                    try simp only [Act.put, List.setIfInBounds_toArray, List.set_cons_zero, List.set_cons_succ, List.getElem_toArray, List.getElem_cons_succ, List.getElem_cons_zero]
                    have HH9 := Lib.hid hHeld
                    clear hHeld hcx
                    have HC10 : Hid (Chg [] vc w9) := Lib.hid (HCR.out.trans HH9.out (by simp))
                    go_wp2_with fail
                    refine ⟨?_, by simp [intN]; omega⟩
                    first | exact ⟨j + 1, vintP (by omega), by omega, HC10⟩ | ((repeat apply Exists.intro); exact ⟨⟨j + 1, vintP (by omega), by omega, HC10⟩, rfl⟩)
                · have q1 : ¬ (j : Int) < (n8 : Int) := by omega
                  go_wp2_with fail
                  go_ret
                  exact ⟨rfl, HC9.out.trans HCR.out (by simp)⟩
            · skip
              go_simp
              obtain ⟨va, hv⟩ : ∃ x, x = vd.alloc (.cells #[.string ⟨#[]⟩, .int .i64 0, .int .i64 0, .slice none 0 0] 27) := ⟨_, rfl⟩
              rw [← hv]
              obtain ⟨T, hT⟩ : ∃ T, T = vd.heap.size := ⟨_, rfl⟩
              rw [← hT]
              have HT0 : Hid (Blk va T [.string ⟨#[]⟩, .int .i64 0, .int .i64 0, .slice none 0 0] 27) := Lib.hid (by rw [hv, hT]; exact Blk.new vd _ _)
              have HGT : Hid (V.heap.size ≤ T) := Lib.hid (by rw [hT]; exact hHeld.size)
              refine hK.out _ _ (by rw [hv]; exact hHeld.alloc _) (fun hHeld => ?_)
              clear hK K hv hT
              try simp only [Act.put, List.setIfInBounds_toArray, List.set_cons_zero, List.set_cons_succ, List.getElem_toArray, List.getElem_cons_succ, List.getElem_cons_zero]
              refine wpAnyH_ready (rs := [16]) (by kernel_rfl) (by simp) (AllReadyH.cons rfl (fun K hK => ?_) AllReadyH.nil)
              go_simp
              refine parse_hl (s := J) (by have := HJL.out; omega) HCAT (fun r8 er8 A8 ao8 n8 cap8 vb HP8 HN8 HL8 HC8 => ?_)
              obtain ⟨VB, hVB⟩ : ∃ x, x = va.heap.size := ⟨_, rfl⟩
              rw [← hVB] at HL8
              have HT1 := Lib.hid (HC8.out.blk HT0.out (by simp))
              have HLB := HL8
              have HTY : Hid (TyB [T] vb VB [47, 51, 54, 64, 58, 56, 24]) := Lib.hid (tyb_blk HT1.out (by decide))
              refine hK.out _ _ (hHeld.trans HC8.out (by simp)) (fun hHeld => ?_)
              clear hK K hVB
              try simp only [Act.put, List.setIfInBounds_toArray, List.set_cons_zero, List.set_cons_succ, List.getElem_toArray, List.getElem_cons_succ, List.getElem_cons_zero]
              refine wpAnyH_take (i := 17) (v := ?vq17) rfl (by kernel_rfl) (by kernel_rfl) (by kernel_rfl) (fun _ _ _ h => h) (Or.inl ⟨by kernel_rfl, ?hyq17⟩) (by assumption) ?rsq17
              case hyq17 => (intro w9 hSw; skip; go_simp; try with_reducible rfl)
              try simp only [Act.put, List.setIfInBounds_toArray, List.set_cons_zero, List.set_cons_succ, List.getElem_toArray, List.getElem_cons_succ, List.getElem_cons_zero]
              refine wpAnyH_take (i := 18) (v := ?vq18) rfl (by kernel_rfl) (by kernel_rfl) (by kernel_rfl) (fun _ _ _ h => h) (Or.inl ⟨by kernel_rfl, ?hyq18⟩) (by assumption) ?rsq18
              case hyq18 => (intro w9 hSw; skip; go_simp; try with_reducible rfl)
              try simp only [Act.put, List.setIfInBounds_toArray, List.set_cons_zero, List.set_cons_succ, List.getElem_toArray, List.getElem_cons_succ, List.getElem_cons_zero]
              refine wpAnyH_take (i := 19) (v := ?vq19) rfl (by kernel_rfl) (by kernel_rfl) (by kernel_rfl) (fun _ _ _ h => h) (Or.inl ⟨by kernel_rfl, ?hyq19⟩) (by assumption) ?rsq19
              case hyq19 => (intro w9 hSw; skip; go_simp; try with_reducible rfl)
              try simp only [Act.put, List.setIfInBounds_toArray, List.set_cons_zero, List.set_cons_succ, List.getElem_toArray, List.getElem_cons_succ, List.getElem_cons_zero]
              refine wpAnyH_take (i := 20) (v := ?vq20) rfl (by kernel_rfl) (by kernel_rfl) (by kernel_rfl) (fun _ _ _ h => h) (Or.inl ⟨by kernel_rfl, ?hyq20⟩) (by assumption) ?rsq20
              case hyq20 => (intro w9 hSw; skip; go_simp; try with_reducible rfl)
              try simp only [Act.put, List.setIfInBounds_toArray, List.set_cons_zero, List.set_cons_succ, List.getElem_toArray, List.getElem_cons_succ, List.getElem_cons_zero]
              refine wpAnyH_ready (rs := [22]) (by kernel_rfl) (by simp) (AllReadyH.cons rfl (fun K hK => ?_) AllReadyH.nil)
              have z0 := HT1.out.cell (i := 0) rfl
              have z1 := HT1.out.cell (i := 1) rfl
              have z2 := HT1.out.cell (i := 2) rfl
              have z3 := HT1.out.cell (i := 3) rfl
              have f0 := HT1.out.free 0
              have f1 := HT1.out.free 1
              have f2 := HT1.out.free 2
              have f3 := HT1.out.free 3
              go_simp
              obtain ⟨vc, hv⟩ : ∃ x, x = ((((vb.setCell ⟨T, 0, none⟩ (.string ⟨r8.name.toArray⟩)).setCell ⟨T, 1, none⟩ (.int .i64 (r8.sx : Nat))).setCell ⟨T, 2, none⟩ (.int .i64 (r8.sy : Nat))).setCell ⟨T, 3, none⟩ (.slice ao8 n8 cap8)) := ⟨_, rfl⟩
              rw [← hv]
              have HTB : Hid (Blk vc T [.string ⟨r8.name.toArray⟩, .int .i64 (r8.sx : Nat), .int .i64 (r8.sy : Nat), .slice ao8 n8 cap8] 27) := Lib.hid (by rw [hv]; exact ((((HT1.out.set 0 _).set 1 _).set 2 _).set 3 _))
              have HLR : Hid (ListS VB 47 8 (Clv VB) r8.levels (.slice ao8 n8 cap8) vc) := Lib.hid (by rw [hv]; exact HLB.out.keep (kp_lv _) (own := [T]) (((((Chg.refl _ _).setCell _ _ (.inl (by simp))).setCell _ _ (.inl (by simp))).setCell _ _ (.inl (by simp))).setCell _ _ (.inl (by simp))) HTY.out)
              clear z0 z1 z2 z3 f0 f1 f2 f3
              refine hK.out _ _ (by rw [hv]; exact (((hHeld.setCell _ _ (.inr (by show _ ≤ T; exact HGT.out))).setCell _ _ (.inr (by show _ ≤ T; exact HGT.out))).setCell _ _ (.inr (by show _ ≤ T; exact HGT.out))).setCell _ _ (.inr (by show _ ≤ T; exact HGT.out))) (fun hHeld => ?_)
              clear hK K hv
              try simp only [Act.put, List.setIfInBounds_toArray, List.set_cons_zero, List.set_cons_succ, List.getElem_toArray, List.getElem_cons_succ, List.getElem_cons_zero]
              refine wpAnyH_take (i := 23) (v := ?vq23) rfl (by kernel_rfl) (by kernel_rfl) (by kernel_rfl) (fun _ _ _ h => h) (Or.inl ⟨by kernel_rfl, ?hyq23⟩) (by assumption) ?rsq23
              case hyq23 => (intro w9 hSw; skip; go_simp; try with_reducible rfl)
              try simp only [Act.put, List.setIfInBounds_toArray, List.set_cons_zero, List.set_cons_succ, List.getElem_toArray, List.getElem_cons_succ, List.getElem_cons_zero]
              refine wpAnyH_take (i := 24) (v := ?vq24) rfl (by kernel_rfl) (by kernel_rfl) (by kernel_rfl) (fun _ _ _ h => h) (Or.inl ⟨by kernel_rfl, ?hyq24⟩) (by assumption) ?rsq24
              case hyq24 => (intro w9 hSw; skip; go_simp; try with_reducible rfl)
              try simp only [Act.put, List.setIfInBounds_toArray, List.set_cons_zero, List.set_cons_succ, List.getElem_toArray, List.getElem_cons_succ, List.getElem_cons_zero]
              refine wpAnyH_done (by kernel_rfl) ?_ _
              try simp only [Act.put, List.setIfInBounds_toArray, List.set_cons_zero, List.set_cons_succ, List.getElem_toArray, List.getElem_cons_succ, List.getElem_cons_zero]
              have HH := Lib.hid hHeld
              clear hHeld
              obtain ⟨h1, h2⟩ : er8 = 0 ∧ r8 = ⟨p.name, p.sx, p.sy, p.levels ++ L⟩ := by
                have h1 := HG1.out
                have h2 := HG2.out
                rw [HP8.out] at h1 h2
                rw [HPA.out] at h2
                exact ⟨h1, h2⟩
              subst h1
              subst h2
              have HX9 := Lib.hid ((HVV.out.trans HH.out (by simp)).blk HX5.out (by simp))
              have HY9 := Lib.hid ((HVV.out.trans HH.out (by simp)).blk HY5.out (by simp))
              have HP9 := Lib.hid (HLP.out.keep (kp_lv _) (HVV.out.trans HH.out (by simp)) (TyB.nil _ _ _))
              have HQ9 := Lib.hid (HLQ.out.keep (kp_lv _) (HVV.out.trans HH.out (by simp)) (TyB.nil _ _ _))
              have HC9 : Hid (Chg [] w vc) := Lib.hid (HC.out.trans (HVV.out.trans HH.out (by simp)) (by simp))
              have hn8 : n8 = n1 + n2 := by rw [HN8.out, HNL.out, HNM.out]; show (p.levels ++ L).length = _; rw [List.length_append, HG3.out.1, HPB.out]
              have HN9 := Lib.hid hn8
              have y0 := HTB.out.cell (i := 0) rfl
              have y1 := HTB.out.cell (i := 1) rfl
              have y2 := HTB.out.cell (i := 2) rfl
              have y3 := HTB.out.cell (i := 3) rfl
              have x0 := HX9.out.cell (i := 0) rfl
              have x1 := HX9.out.cell (i := 1) rfl
              have x2 := HX9.out.cell (i := 2) rfl
              have x3 := HX9.out.cell (i := 3) rfl
              have z3 := HY9.out.cell (i := 3) rfl
              have hb1 : n1 ≤ 4611686018427387903 ∧ n2 ≤ 4611686018427387903 := by have h1 := HBD.out; exact h1
              have hw9 : IntKind.i64.wrap ((n1 : Int) + (n2 : Int)) = (n8 : Int) := by rw [IntWalk.i64_in _ (by omega)]; omega
              have hbb : ((n8 : Int) != (n8 : Int)) = false := by simp
              clear hn8 hb1
              go_wp2_with fail
              clear x0 x1 x2 x3 y0 y1 y2 y3 z3 hw9 hbb
              go_loopw [23] (fun iv wr => ∃ j : Nat, iv = .int .i64 (j : Int) ∧ j ≤ n8 ∧ Hid (Chg [] vc wr)) (fun iv _ => n8 - intN iv)
              case atStart => exact ⟨0, rfl, Nat.zero_le _, Lib.hid (Chg.refl _ _)⟩
              case round =>
                obtain ⟨j, rfl, hj, HCR⟩ := hrel
                have y3 := (HCR.out.blk HTB.out (by simp)).cell (i := 3) rfl
                have x3 := (HCR.out.blk HX9.out (by simp)).cell (i := 3) rfl
                have z3 := (HCR.out.blk HY9.out (by simp)).cell (i := 3) rfl
                have Y3 := Lib.hid y3
                have X3 := Lib.hid x3
                have Z3 := Lib.hid z3
                by_cases hlt : j < n8
                · have q0 : (0 : Int) ≤ (j : Int) := by omega
                  have q1 : (j : Int) < (n8 : Int) := by omega
                  have q2 : (j : Int) ≤ (cap8 : Int) := by have := HLR.out.cap_le; rw [HN8.out] at hlt; omega
                  have qj : ((j : Int)).toNat = j := by omega
                  have hw2 : IntKind.i64.wrap ((j : Int) + 1) = ((j + 1 : Nat) : Int) := by rw [IntWalk.i64_in _ (by have h1 := HN9.out; have h2 := HBD.out; omega)]; omega
                  clear x3 z3
                  by_cases hlo : j < n1
                  · obtain ⟨x, hx⟩ : ∃ x, p.levels[j]? = some x := ⟨p.levels[j]'(by rw [← HNL.out]; exact hlo), by simp⟩
                    have hx8 : (p.levels ++ L)[j]? = some x := by rw [List.getElem?_append_left (by rw [← HNL.out]; exact hlo)]; exact hx
                    obtain ⟨ga, cpa, p1a, s1a, p2a, s2a, p3a, s3a, p4a, s4a, p5a, s5a, eva, eca, t1a, t2a, t3a, t4a, t5a, k0, k1, k2, k3, k4, k5, k6, k7⟩ := lev_get (HLR.out.keep (kp_lv _) HCR.out (TyB.nil _ _ _)) hx8
                    obtain ⟨gb, cpb, p1b, s1b, p2b, s2b, p3b, s3b, p4b, s4b, p5b, s5b, evb, ecb, t1b, t2b, t3b, t4b, t5b, l0, l1, l2, l3, l4, l5, l6, l7⟩ := lev_get (HP9.out.keep (kp_lv _) HCR.out (TyB.nil _ _ _)) hx
                    rw [← HN8.out] at eva eca
                    rw [← HNL.out] at evb ecb
                    simp only [Value.slice.injEq, true_and] at eva evb
                    obtain ⟨rfl, rfl⟩ := eva
                    obtain ⟨rfl, rfl⟩ := evb
                    have Ta : Hid (LvL VB x (.slice p1a x.blocks.length s1a) (.slice p2a x.areas.length s2a) (.slice p3a x.aisles.length s3a) (.slice p4a x.pillars.length s4a) (.slice p5a x.doors.length s5a) wr) := Lib.hid ⟨t1a, t2a, t3a, t4a, t5a⟩
                    have Tb : Hid (LvL w1.heap.size x (.slice p1b x.blocks.length s1b) (.slice p2b x.areas.length s2b) (.slice p3b x.aisles.length s3b) (.slice p4b x.pillars.length s4b) (.slice p5b x.doors.length s5b) wr) := Lib.hid ⟨t1b, t2b, t3b, t4b, t5b⟩
                    have q3 : (j : Int) < (n1 : Int) := by omega
                    have q4 : (j : Int) ≤ (capp : Int) := by omega
                    have q5 : ¬ (n1 : Int) ≤ (j : Int) := by omega
                    clear hx hx8 eca ecb t1a t2a t3a t4a t5a t1b t2b t3b t4b t5b
                    have Kk0 := Lib.hid k0
                    have Kk1 := Lib.hid k1
                    have Kk2 := Lib.hid k2
                    have Kk3 := Lib.hid k3
                    have Kk4 := Lib.hid k4
                    have Kk5 := Lib.hid k5
                    have Kk6 := Lib.hid k6
                    have Kk7 := Lib.hid k7
                    have Kl0 := Lib.hid l0
                    have Kl1 := Lib.hid l1
                    have Kl2 := Lib.hid l2
                    have Kl3 := Lib.hid l3
                    have Kl4 := Lib.hid l4
                    have Kl5 := Lib.hid l5
                    have Kl6 := Lib.hid l6
                    have Kl7 := Lib.hid l7
                    clear k0 k1 k2 k3 k4 k5 k6 k7 l0 l1 l2 l3 l4 l5 l6 l7
                    go_upto_region 21 with fail
                    clear y3
                    refine wp_region_held_drew (S := fun W' => Chg [] wr W') (by kernel_rfl) (Chg.refl _ _).drew (fun hHeld => ?_)
                    refine wpAnyH_take (i := 0) (v := ?vf0) rfl (by kernel_rfl) (by kernel_rfl) (by kernel_rfl) (fun _ _ _ h => h) (Or.inl ⟨by kernel_rfl, ?hyf0⟩) (by assumption) ?rsf0
                    case hyf0 => (intro w9 hSw; skip; go_simp; try with_reducible rfl)
                    try simp only [Act.put, List.setIfInBounds_toArray, List.set_cons_zero, List.set_cons_succ, List.getElem_toArray, List.getElem_cons_succ, List.getElem_cons_zero]
                    refine wpAnyH_take (i := 1) (v := ?vf1) rfl (by kernel_rfl) (by kernel_rfl) (by kernel_rfl) (fun _ _ _ h => h) (Or.inl ⟨by kernel_rfl, ?hyf1⟩) (by assumption) ?rsf1
                    case hyf1 => (intro w9 hSw; skip; go_simp; try with_reducible rfl)
                    try simp only [Act.put, List.setIfInBounds_toArray, List.set_cons_zero, List.set_cons_succ, List.getElem_toArray, List.getElem_cons_succ, List.getElem_cons_zero]
                    refine wpAnyH_take (i := 2) (v := ?vf2) rfl (by kernel_rfl) (by kernel_rfl) (by kernel_rfl) (fun _ _ _ h => h) (Or.inl ⟨by kernel_rfl, ?hyf2⟩) (by assumption) ?rsf2
                    case hyf2 => (intro w9 hSw; have d := cell_quiet hSw X3.out (by simp); go_simp; try with_reducible rfl)
                    try simp only [Act.put, List.setIfInBounds_toArray, List.set_cons_zero, List.set_cons_succ, List.getElem_toArray, List.getElem_cons_succ, List.getElem_cons_zero]
                    refine wpAnyH_take (i := 3) (v := ?vf3) rfl (by kernel_rfl) (by kernel_rfl) (by kernel_rfl) (fun _ _ _ h => h) (Or.inl ⟨by kernel_rfl, ?hyf3⟩) (by assumption) ?rsf3
                    case hyf3 => (intro w9 hSw; skip; go_simp; try with_reducible rfl)
                    try simp only [Act.put, List.setIfInBounds_toArray, List.set_cons_zero, List.set_cons_succ, List.getElem_toArray, List.getElem_cons_succ, List.getElem_cons_zero]
                    refine wpAnyH_take (i := 4) (v := ?vf4) rfl (by kernel_rfl) (by kernel_rfl) (by kernel_rfl) (fun _ _ _ h => h) (Or.inl ⟨by kernel_rfl, ?hyf4⟩) (by assumption) ?rsf4
                    case hyf4 => (intro w9 hSw; skip; go_simp; try with_reducible rfl)
                    try simp only [Act.put, List.setIfInBounds_toArray, List.set_cons_zero, List.set_cons_succ, List.getElem_toArray, List.getElem_cons_succ, List.getElem_cons_zero]
                    refine wpAnyH_take (i := 5) (v := ?vf5) rfl (by kernel_rfl) (by kernel_rfl) (by kernel_rfl) (fun _ _ _ h => h) (Or.inl ⟨by kernel_rfl, ?hyf5⟩) (by assumption) ?rsf5
                    case hyf5 => (intro w9 hSw; skip; go_simp; try with_reducible rfl)
                    try simp only [Act.put, List.setIfInBounds_toArray, List.set_cons_zero, List.set_cons_succ, List.getElem_toArray, List.getElem_cons_succ, List.getElem_cons_zero]
                    refine wpAnyH_take (i := 6) (v := ?vf6) rfl (by kernel_rfl) (by kernel_rfl) (by kernel_rfl) (fun _ _ _ h => h) (Or.inl ⟨by kernel_rfl, ?hyf6⟩) (by assumption) ?rsf6
                    case hyf6 => (intro w9 hSw; skip; go_simp; try with_reducible rfl)
                    try simp only [Act.put, List.setIfInBounds_toArray, List.set_cons_zero, List.set_cons_succ, List.getElem_toArray, List.getElem_cons_succ, List.getElem_cons_zero]
                    refine wpAnyH_take (i := 7) (v := ?vf7) rfl (by kernel_rfl) (by kernel_rfl) (by kernel_rfl) (fun _ _ _ h => h) (Or.inl ⟨by kernel_rfl, ?hyf7⟩) (by assumption) ?rsf7
                    case hyf7 => (intro w9 hSw; have d := cell_quiet hSw Y3.out (by simp); go_simp; try with_reducible rfl)
                    try simp only [Act.put, List.setIfInBounds_toArray, List.set_cons_zero, List.set_cons_succ, List.getElem_toArray, List.getElem_cons_succ, List.getElem_cons_zero]
                    refine wpAnyH_take (i := 8) (v := ?vf8) rfl (by kernel_rfl) (by kernel_rfl) (by kernel_rfl) (fun _ _ _ h => h) (Or.inl ⟨by kernel_rfl, ?hyf8⟩) (by assumption) ?rsf8
                    case hyf8 => (intro w9 hSw; skip; go_simp; try with_reducible rfl)
                    try simp only [Act.put, List.setIfInBounds_toArray, List.set_cons_zero, List.set_cons_succ, List.getElem_toArray, List.getElem_cons_succ, List.getElem_cons_zero]
                    refine wpAnyH_take (i := 9) (v := ?vf9) rfl (by kernel_rfl) (by kernel_rfl) (by kernel_rfl) (fun _ _ _ h => h) (Or.inl ⟨by kernel_rfl, ?hyf9⟩) (by assumption) ?rsf9
                    case hyf9 => (intro w9 hSw; skip; go_simp; try with_reducible rfl)
                    try simp only [Act.put, List.setIfInBounds_toArray, List.set_cons_zero, List.set_cons_succ, List.getElem_toArray, List.getElem_cons_succ, List.getElem_cons_zero]
                    refine wpAnyH_take (i := 10) (v := ?vf10) rfl (by kernel_rfl) (by kernel_rfl) (by kernel_rfl) (fun _ _ _ h => h) (Or.inl ⟨by kernel_rfl, ?hyf10⟩) (by assumption) ?rsf10
                    case hyf10 => (intro w9 hSw; have d0 := cell_quiet hSw Kk0.out (by simp); have d1 := cell_quiet hSw Kk1.out (by simp); have d2 := cell_quiet hSw Kk2.out (by simp); have d3 := cell_quiet hSw Kk3.out (by simp); have d4 := cell_quiet hSw Kk4.out (by simp); have d5 := cell_quiet hSw Kk5.out (by simp); have d6 := cell_quiet hSw Kk6.out (by simp); have d7 := cell_quiet hSw Kk7.out (by simp); go_simp; try with_reducible rfl)
                    try simp only [Act.put, List.setIfInBounds_toArray, List.set_cons_zero, List.set_cons_succ, List.getElem_toArray, List.getElem_cons_succ, List.getElem_cons_zero]
                    refine wpAnyH_take (i := 11) (v := ?vf11) rfl (by kernel_rfl) (by kernel_rfl) (by kernel_rfl) (fun _ _ _ h => h) (Or.inl ⟨by kernel_rfl, ?hyf11⟩) (by assumption) ?rsf11
                    case hyf11 => (intro w9 hSw; skip; go_simp; try with_reducible rfl)
                    try simp only [Act.put, List.setIfInBounds_toArray, List.set_cons_zero, List.set_cons_succ, List.getElem_toArray, List.getElem_cons_succ, List.getElem_cons_zero]
                    refine wpAnyH_take (i := 12) (v := ?vf12) rfl (by kernel_rfl) (by kernel_rfl) (by kernel_rfl) (fun _ _ _ h => h) (Or.inl ⟨by kernel_rfl, ?hyf12⟩) (by assumption) ?rsf12
                    case hyf12 => (intro w9 hSw; have d := cell_quiet hSw X3.out (by simp); go_simp; try with_reducible rfl)
                    try simp only [Act.put, List.setIfInBounds_toArray, List.set_cons_zero, List.set_cons_succ, List.getElem_toArray, List.getElem_cons_succ, List.getElem_cons_zero]
                    refine wpAnyH_take (i := 13) (v := ?vf13) rfl (by kernel_rfl) (by kernel_rfl) (by kernel_rfl) (fun _ _ _ h => h) (Or.inl ⟨by kernel_rfl, ?hyf13⟩) (by assumption) ?rsf13
                    case hyf13 => (intro w9 hSw; skip; go_simp; try with_reducible rfl)
                    try simp only [Act.put, List.setIfInBounds_toArray, List.set_cons_zero, List.set_cons_succ, List.getElem_toArray, List.getElem_cons_succ, List.getElem_cons_zero]
                    refine wpAnyH_take (i := 14) (v := ?vf14) rfl (by kernel_rfl) (by kernel_rfl) (by kernel_rfl) (fun _ _ _ h => h) (Or.inl ⟨by kernel_rfl, ?hyf14⟩) (by assumption) ?rsf14
                    case hyf14 => (intro w9 hSw; skip; go_simp; try with_reducible rfl)
                    try simp only [Act.put, List.setIfInBounds_toArray, List.set_cons_zero, List.set_cons_succ, List.getElem_toArray, List.getElem_cons_succ, List.getElem_cons_zero]
                    refine wpAnyH_take (i := 15) (v := ?vf15) rfl (by kernel_rfl) (by kernel_rfl) (by kernel_rfl) (fun _ _ _ h => h) (Or.inl ⟨by kernel_rfl, ?hyf15⟩) (by assumption) ?rsf15
                    case hyf15 => (intro w9 hSw; have d0 := cell_quiet hSw Kl0.out (by simp); have d1 := cell_quiet hSw Kl1.out (by simp); have d2 := cell_quiet hSw Kl2.out (by simp); have d3 := cell_quiet hSw Kl3.out (by simp); have d4 := cell_quiet hSw Kl4.out (by simp); have d5 := cell_quiet hSw Kl5.out (by simp); have d6 := cell_quiet hSw Kl6.out (by simp); have d7 := cell_quiet hSw Kl7.out (by simp); go_simp; try with_reducible rfl)
                    try simp only [Act.put, List.setIfInBounds_toArray, List.set_cons_zero, List.set_cons_succ, List.getElem_toArray, List.getElem_cons_succ, List.getElem_cons_zero]
                    refine wpAnyH_ready (rs := [16]) (by kernel_rfl) (by simp) (AllReadyH.cons rfl (fun K hK => ?_) AllReadyH.nil)
                    go_simp
                    refine samelevel_r (b := true) (p := x) (q := x) (Lib.hid (Pn.simV_refl true x)) (Lib.hid (Ta.out.keep hHeld (TyB.nil _ _ _))) (Lib.hid (Tb.out.keep hHeld (TyB.nil _ _ _))) (fun w9 hcx => ?_)
                    refine hK.out _ _ (hHeld.trans hcx (by simp)) (fun hHeld => ?_)
                    clear hK K
                    try simp only [Act.put, List.setIfInBounds_toArray, List.set_cons_zero, List.set_cons_succ, List.getElem_toArray, List.getElem_cons_succ, List.getElem_cons_zero]
                    refine wpAnyH_take (i := 17) (v := ?vf17) rfl (by kernel_rfl) (by kernel_rfl) (by kernel_rfl) (fun _ _ _ h => h) (Or.inl ⟨by kernel_rfl, ?hyf17⟩) (by assumption) ?rsf17
                    case hyf17 => (intro w9 hSw; skip; go_simp; try with_reducible rfl)
                    try simp only [Act.put, List.setIfInBounds_toArray, List.set_cons_zero, List.set_cons_succ, List.getElem_toArray, List.getElem_cons_succ, List.getElem_cons_zero]
                    refine wpAnyH_take (i := 18) (v := ?vf18) rfl (by kernel_rfl) (by kernel_rfl) (by kernel_rfl) (fun _ _ _ h => h) (Or.inl ⟨by kernel_rfl, ?hyf18⟩) (by assumption) ?rsf18
                    case hyf18 => (intro w9 hSw; skip; go_simp; try with_reducible rfl)
                    try simp only [Act.put, List.setIfInBounds_toArray, List.set_cons_zero, List.set_cons_succ, List.getElem_toArray, List.getElem_cons_succ, List.getElem_cons_zero]
                    refine wpAnyH_take (i := 19) (v := ?vf19) rfl (by kernel_rfl) (by kernel_rfl) (by kernel_rfl) (fun _ _ _ h => h) (Or.inl ⟨by kernel_rfl, ?hyf19⟩) (by assumption) ?rsf19
                    case hyf19 => (intro w9 hSw; skip; go_simp; try with_reducible rfl)
                    try simp only [Act.put, List.setIfInBounds_toArray, List.set_cons_zero, List.set_cons_succ, List.getElem_toArray, List.getElem_cons_succ, List.getElem_cons_zero]
                    refine wpAnyH_take (i := 20) (v := ?vf20) rfl (by kernel_rfl) (by kernel_rfl) (by kernel_rfl) (fun _ _ _ h => h) (Or.inl ⟨by kernel_rfl, ?hyf20⟩) (by assumption) ?rsf20
                    case hyf20 => (intro w9 hSw; skip; go_simp; try with_reducible rfl)
                    try simp only [Act.put, List.setIfInBounds_toArray, List.set_cons_zero, List.set_cons_succ, List.getElem_toArray, List.getElem_cons_succ, List.getElem_cons_zero]
                    refine wpAnyH_take (i := 21) (v := ?vf21) rfl (by kernel_rfl) (by kernel_rfl) (by kernel_rfl) (fun _ _ _ h => h) (Or.inl ⟨by kernel_rfl, ?hyf21⟩) (by assumption) ?rsf21
                    case hyf21 => (intro w9 hSw; skip; go_simp; try with_reducible rfl)
                    try simp only [Act.put, List.setIfInBounds_toArray, List.set_cons_zero, List.set_cons_succ, List.getElem_toArray, List.getElem_cons_succ, List.getElem_cons_zero]
                    refine wpAnyH_take (i := 22) (v := ?vf22) rfl (by kernel_rfl) (by kernel_rfl) (by kernel_rfl) (fun _ _ _ h => h) (Or.inl ⟨by kernel_rfl, ?hyf22⟩) (by assumption) ?rsf22
                    case hyf22 => (intro w9 hSw; have d := cell_quiet hSw X3.out (by simp); go_simp; try with_reducible rfl)
                    try simp only [Act.put, List.setIfInBounds_toArray, List.set_cons_zero, List.set_cons_succ, List.getElem_toArray, List.getElem_cons_succ, List.getElem_cons_zero]
                    refine wpAnyH_take (i := 23) (v := ?vf23) rfl (by kernel_rfl) (by kernel_rfl) (by kernel_rfl) (fun _ _ _ h => h) (Or.inl ⟨by kernel_rfl, ?hyf23⟩) (by assumption) ?rsf23
                    case hyf23 => (intro w9 hSw; skip; go_simp; try with_reducible rfl)
                    try simp only [Act.put, List.setIfInBounds_toArray, List.set_cons_zero, List.set_cons_succ, List.getElem_toArray, List.getElem_cons_succ, List.getElem_cons_zero]
                    refine wpAnyH_take (i := 24) (v := ?vf24) rfl (by kernel_rfl) (by kernel_rfl) (by kernel_rfl) (fun _ _ _ h => h) (Or.inl ⟨by kernel_rfl, ?hyf24⟩) (by assumption) ?rsf24
                    case hyf24 => (intro w9 hSw; skip; go_simp; try with_reducible rfl)
                    try simp only [Act.put, List.setIfInBounds_toArray, List.set_cons_zero, List.set_cons_succ, List.getElem_toArray, List.getElem_cons_succ, List.getElem_cons_zero]
                    refine wpAnyH_take (i := 25) (v := ?vf25) rfl (by kernel_rfl) (by kernel_rfl) (by kernel_rfl) (fun _ _ _ h => h) (Or.inl ⟨by kernel_rfl, ?hyf25⟩) (by assumption) ?rsf25
                    case hyf25 => (intro w9 hSw; skip; go_simp; try with_reducible rfl)
                    try simp only [Act.put, List.setIfInBounds_toArray, List.set_cons_zero, List.set_cons_succ, List.getElem_toArray, List.getElem_cons_succ, List.getElem_cons_zero]
                    refine wpAnyH_take (i := 26) (v := undef) rfl (by kernel_rfl) (by kernel_rfl) (by kernel_rfl) (fun _ _ _ h => h) (Or.inr ⟨by kernel_rfl, rfl⟩) (by assumption) ?rsf26
                    try simp only [Act.put, List.setIfInBounds_toArray, List.set_cons_zero, List.set_cons_succ, List.getElem_toArray, List.getElem_cons_succ, List.getElem_cons_zero]
                    refine wpAnyH_take (i := 27) (v := undef) rfl (by kernel_rfl) (by kernel_rfl) (by kernel_rfl) (fun _ _ _ h => h) (Or.inr ⟨by kernel_rfl, rfl⟩) (by assumption) ?rsf27
                    try simp only [Act.put, List.setIfInBounds_toArray, List.set_cons_zero, List.set_cons_succ, List.getElem_toArray, List.getElem_cons_succ, List.getElem_cons_zero]
                    refine wpAnyH_take (i := 28) (v := undef) rfl (by kernel_rfl) (by kernel_rfl) (by kernel_rfl) (fun _ _ _ h => h) (Or.inr ⟨by kernel_rfl, rfl⟩) (by assumption) ?rsf28
                    try simp only [Act.put, List.setIfInBounds_toArray, List.set_cons_zero, List.set_cons_succ, List.getElem_toArray, List.getElem_cons_succ, List.getElem_cons_zero]
                    refine wpAnyH_take (i := 29) (v := undef) rfl (by kernel_rfl) (by kernel_rfl) (by kernel_rfl) (fun _ _ _ h => h) (Or.inr ⟨by kernel_rfl, rfl⟩) (by assumption) ?rsf29
                    try simp only [Act.put, List.setIfInBounds_toArray, List.set_cons_zero, List.set_cons_succ, List.getElem_toArray, List.getElem_cons_succ, List.getElem_cons_zero]
                    refine wpAnyH_take (i := 30) (v := undef) rfl (by kernel_rfl) (by kernel_rfl) (by kernel_rfl) (fun _ _ _ h => h) (Or.inr ⟨by kernel_rfl, rfl⟩) (by assumption) ?rsf30
                    try simp only [Act.put, List.setIfInBounds_toArray, List.set_cons_zero, List.set_cons_succ, List.getElem_toArray, List.getElem_cons_succ, List.getElem_cons_zero]
                    refine wpAnyH_take (i := 31) (v := undef) rfl (by kernel_rfl) (by kernel_rfl) (by kernel_rfl) (fun _ _ _ h => h) (Or.inr ⟨by kernel_rfl, rfl⟩) (by assumption) ?rsf31
                    try simp only [Act.put, List.setIfInBounds_toArray, List.set_cons_zero, List.set_cons_succ, List.getElem_toArray, List.getElem_cons_succ, List.getElem_cons_zero]
                    refine wpAnyH_take (i := 32) (v := undef) rfl (by kernel_rfl) (by kernel_rfl) (by kernel_rfl) (fun _ _ _ h => h) (Or.inr ⟨by kernel_rfl, rfl⟩) (by assumption) ?rsf32
                    try simp only [Act.put, List.setIfInBounds_toArray, List.set_cons_zero, List.set_cons_succ, List.getElem_toArray, List.getElem_cons_succ, List.getElem_cons_zero]
                    refine wpAnyH_take (i := 33) (v := undef) rfl (by kernel_rfl) (by kernel_rfl) (by kernel_rfl) (fun _ _ _ h => h) (Or.inr ⟨by kernel_rfl, rfl⟩) (by assumption) ?rsf33
                    try simp only [Act.put, List.setIfInBounds_toArray, List.set_cons_zero, List.set_cons_succ, List.getElem_toArray, List.getElem_cons_succ, List.getElem_cons_zero]
                    refine wpAnyH_take (i := 34) (v := undef) rfl (by kernel_rfl) (by kernel_rfl) (by kernel_rfl) (fun _ _ _ h => h) (Or.inr ⟨by kernel_rfl, rfl⟩) (by assumption) ?rsf34
                    try simp only [Act.put, List.setIfInBounds_toArray, List.set_cons_zero, List.set_cons_succ, List.getElem_toArray, List.getElem_cons_succ, List.getElem_cons_zero]
                    refine wpAnyH_take (i := 35) (v := undef) rfl (by kernel_rfl) (by kernel_rfl) (by kernel_rfl) (fun _ _ _ h => h) (Or.inr ⟨by kernel_rfl, rfl⟩) (by assumption) ?rsf35
                    try simp only [Act.put, List.setIfInBounds_toArray, List.set_cons_zero, List.set_cons_succ, List.getElem_toArray, List.getElem_cons_succ, List.getElem_cons_zero]
                    refine wpAnyH_take (i := 36) (v := undef) rfl (by kernel_rfl) (by kernel_rfl) (by kernel_rfl) (fun _ _ _ h => h) (Or.inr ⟨by kernel_rfl, rfl⟩) (by assumption) ?rsf36
                    try simp only [Act.put, List.setIfInBounds_toArray, List.set_cons_zero, List.set_cons_succ, List.getElem_toArray, List.getElem_cons_succ, List.getElem_cons_zero]
                    refine wpAnyH_take (i := 37) (v := undef) rfl (by kernel_rfl) (by kernel_rfl) (by kernel_rfl) (fun _ _ _ h => h) (Or.inr ⟨by kernel_rfl, rfl⟩) (by assumption) ?rsf37
                    try simp only [Act.put, List.setIfInBounds_toArray, List.set_cons_zero, List.set_cons_succ, List.getElem_toArray, List.getElem_cons_succ, List.getElem_cons_zero]
                    refine wpAnyH_take (i := 38) (v := undef) rfl (by kernel_rfl) (by kernel_rfl) (by kernel_rfl) (fun _ _ _ h => h) (Or.inr ⟨by kernel_rfl, rfl⟩) (by assumption) ?rsf38
                    try simp only [Act.put, List.setIfInBounds_toArray, List.set_cons_zero, List.set_cons_succ, List.getElem_toArray, List.getElem_cons_succ, List.getElem_cons_zero]
                    refine wpAnyH_take (i := 39) (v := undef) rfl (by kernel_rfl) (by kernel_rfl) (by kernel_rfl) (fun _ _ _ h => h) (Or.inr ⟨by kernel_rfl, rfl⟩) (by assumption) ?rsf39
                    try simp only [Act.put, List.setIfInBounds_toArray, List.set_cons_zero, List.set_cons_succ, List.getElem_toArray, List.getElem_cons_succ, List.getElem_cons_zero]
                    refine wpAnyH_take (i := 40) (v := undef) rfl (by kernel_rfl) (by kernel_rfl) (by kernel_rfl) (fun _ _ _ h => h) (Or.inr ⟨by kernel_rfl, rfl⟩) (by assumption) ?rsf40
                    try simp only [Act.put, List.setIfInBounds_toArray, List.set_cons_zero, List.set_cons_succ, List.getElem_toArray, List.getElem_cons_succ, List.getElem_cons_zero]
                    refine wpAnyH_take (i := 41) (v := undef) rfl (by kernel_rfl) (by kernel_rfl) (by kernel_rfl) (fun _ _ _ h => h) (Or.inr ⟨by kernel_rfl, rfl⟩) (by assumption) ?rsf41
                    try simp only [Act.put, List.setIfInBounds_toArray, List.set_cons_zero, List.set_cons_succ, List.getElem_toArray, List.getElem_cons_succ, List.getElem_cons_zero]
                    refine wpAnyH_take (i := 42) (v := ?vf42) rfl (by kernel_rfl) (by kernel_rfl) (by kernel_rfl) (fun _ _ _ h => h) (Or.inl ⟨by kernel_rfl, ?hyf42⟩) (by assumption) ?rsf42
                    case hyf42 => (intro w9 hSw; skip; go_simp; try with_reducible rfl)
                    try simp only [Act.put, List.setIfInBounds_toArray, List.set_cons_zero, List.set_cons_succ, List.getElem_toArray, List.getElem_cons_succ, List.getElem_cons_zero]
                    refine wpAnyH_take (i := 43) (v := ?vf43) rfl (by kernel_rfl) (by kernel_rfl) (by kernel_rfl) (fun _ _ _ h => h) (Or.inl ⟨by kernel_rfl, ?hyf43⟩) (by assumption) ?rsf43
                    case hyf43 => (intro w9 hSw; skip; go_simp; try with_reducible rfl)
                    try simp only [Act.put, List.setIfInBounds_toArray, List.set_cons_zero, List.set_cons_succ, List.getElem_toArray, List.getElem_cons_succ, List.getElem_cons_zero]
                    refine wpAnyH_done (by kernel_rfl) ?_ _
                    try simp only [Act.put, List.setIfInBounds_toArray, List.set_cons_zero, List.set_cons_succ, List.getElem_toArray, List.getElem_cons_succ, List.getElem_cons_zero]
                    have HH9 := Lib.hid hHeld
                    clear hHeld hcx
                    have HC10 : Hid (Chg [] vc w9) := Lib.hid (HCR.out.trans HH9.out (by simp))
                    go_wp2_with fail
                    refine ⟨?_, by simp [intN]; omega⟩
                    first | exact ⟨j + 1, vintP (by omega), by omega, HC10⟩ | ((repeat apply Exists.intro); exact ⟨⟨j + 1, vintP (by omega), by omega, HC10⟩, rfl⟩)
                  · obtain ⟨i, hi⟩ : ∃ i, i = j - n1 := ⟨_, rfl⟩
                    have hn2 : i < n2 := by have := HN9.out; omega
                    obtain ⟨x, y, hx, hy, hsim⟩ := HG3.out.at (i := i) (by rw [HG3.out.1, HPB.out, ← HNM.out]; exact hn2)
                    rw [HPB.out] at hy
                    have HSI := Lib.hid hsim
                    have hx8 : (p.levels ++ L)[j]? = some x := by rw [List.getElem?_append_right (by rw [← HNL.out]; omega), ← HNL.out, ← hi]; exact hx
                    obtain ⟨ga, cpa, p1a, s1a, p2a, s2a, p3a, s3a, p4a, s4a, p5a, s5a, eva, eca, t1a, t2a, t3a, t4a, t5a, k0, k1, k2, k3, k4, k5, k6, k7⟩ := lev_get (HLR.out.keep (kp_lv _) HCR.out (TyB.nil _ _ _)) hx8
                    obtain ⟨gb, cpb, p1b, s1b, p2b, s2b, p3b, s3b, p4b, s4b, p5b, s5b, evb, ecb, t1b, t2b, t3b, t4b, t5b, l0, l1, l2, l3, l4, l5, l6, l7⟩ := lev_get (HQ9.out.keep (kp_lv _) HCR.out (TyB.nil _ _ _)) hy
                    rw [← HN8.out] at eva eca
                    rw [← HNM.out] at evb ecb
                    simp only [Value.slice.injEq, true_and] at eva evb
                    obtain ⟨rfl, rfl⟩ := eva
                    obtain ⟨rfl, rfl⟩ := evb
                    have Ta : Hid (LvL VB x (.slice p1a x.blocks.length s1a) (.slice p2a x.areas.length s2a) (.slice p3a x.aisles.length s3a) (.slice p4a x.pillars.length s4a) (.slice p5a x.doors.length s5a) wr) := Lib.hid ⟨t1a, t2a, t3a, t4a, t5a⟩
                    have Tb : Hid (LvL W2.heap.size y (.slice p1b y.blocks.length s1b) (.slice p2b y.areas.length s2b) (.slice p3b y.aisles.length s3b) (.slice p4b y.pillars.length s4b) (.slice p5b y.doors.length s5b) wr) := Lib.hid ⟨t1b, t2b, t3b, t4b, t5b⟩
                    have q3 : ¬ (j : Int) < (n1 : Int) := by omega
                    have q4 : (i : Int) ≤ (capq : Int) := by omega
                    have q5 : (n1 : Int) ≤ (j : Int) := by omega
                    have q6 : IntKind.i64.wrap ((j : Int) - (n1 : Int)) = (i : Int) := by rw [IntWalk.i64_in _ (by have h1 := HN9.out; have h2 := HBD.out; omega)]; omega
                    have q7 : (0 : Int) ≤ (i : Int) := by omega
                    have q8 : (i : Int) < (n2 : Int) := by omega
                    have qi : ((i : Int)).toNat = i := by omega
                    clear hx hy hsim hx8 eca ecb hi hn2 t1a t2a t3a t4a t5a t1b t2b t3b t4b t5b
                    have Kk0 := Lib.hid k0
                    have Kk1 := Lib.hid k1
                    have Kk2 := Lib.hid k2
                    have Kk3 := Lib.hid k3
                    have Kk4 := Lib.hid k4
                    have Kk5 := Lib.hid k5
                    have Kk6 := Lib.hid k6
                    have Kk7 := Lib.hid k7
                    have Kl0 := Lib.hid l0
                    have Kl1 := Lib.hid l1
                    have Kl2 := Lib.hid l2
                    have Kl3 := Lib.hid l3
                    have Kl4 := Lib.hid l4
                    have Kl5 := Lib.hid l5
                    have Kl6 := Lib.hid l6
                    have Kl7 := Lib.hid l7
                    clear k0 k1 k2 k3 k4 k5 k6 k7 l0 l1 l2 l3 l4 l5 l6 l7
                    go_upto_region 21 with fail
                    clear y3
                    refine wp_region_held_drew (S := fun W' => Chg [] wr W') (by kernel_rfl) (Chg.refl _ _).drew (fun hHeld => ?_)
                    refine wpAnyH_take (i := 0) (v := ?vfd0) rfl (by kernel_rfl) (by kernel_rfl) (by kernel_rfl) (fun _ _ _ h => h) (Or.inl ⟨by kernel_rfl, ?hyfd0⟩) (by assumption) ?rsfd0
                    case hyfd0 => (intro w9 hSw; skip; go_simp; try with_reducible rfl)
                    try simp only [Act.put, List.setIfInBounds_toArray, List.set_cons_zero, List.set_cons_succ, List.getElem_toArray, List.getElem_cons_succ, List.getElem_cons_zero]
                    refine wpAnyH_take (i := 1) (v := ?vfd1) rfl (by kernel_rfl) (by kernel_rfl) (by kernel_rfl) (fun _ _ _ h => h) (Or.inl ⟨by kernel_rfl, ?hyfd1⟩) (by assumption) ?rsfd1
                    case hyfd1 => (intro w9 hSw; skip; go_simp; try with_reducible rfl)
                    try simp only [Act.put, List.setIfInBounds_toArray, List.set_cons_zero, List.set_cons_succ, List.getElem_toArray, List.getElem_cons_succ, List.getElem_cons_zero]
                    refine wpAnyH_take (i := 2) (v := ?vfd2) rfl (by kernel_rfl) (by kernel_rfl) (by kernel_rfl) (fun _ _ _ h => h) (Or.inl ⟨by kernel_rfl, ?hyfd2⟩) (by assumption) ?rsfd2
                    case hyfd2 => (intro w9 hSw; have d := cell_quiet hSw X3.out (by simp); go_simp; try with_reducible rfl)
                    try simp only [Act.put, List.setIfInBounds_toArray, List.set_cons_zero, List.set_cons_succ, List.getElem_toArray, List.getElem_cons_succ, List.getElem_cons_zero]
                    refine wpAnyH_take (i := 3) (v := ?vfd3) rfl (by kernel_rfl) (by kernel_rfl) (by kernel_rfl) (fun _ _ _ h => h) (Or.inl ⟨by kernel_rfl, ?hyfd3⟩) (by assumption) ?rsfd3
                    case hyfd3 => (intro w9 hSw; skip; go_simp; try with_reducible rfl)
                    try simp only [Act.put, List.setIfInBounds_toArray, List.set_cons_zero, List.set_cons_succ, List.getElem_toArray, List.getElem_cons_succ, List.getElem_cons_zero]
                    refine wpAnyH_take (i := 4) (v := ?vfd4) rfl (by kernel_rfl) (by kernel_rfl) (by kernel_rfl) (fun _ _ _ h => h) (Or.inl ⟨by kernel_rfl, ?hyfd4⟩) (by assumption) ?rsfd4
                    case hyfd4 => (intro w9 hSw; skip; go_simp; try with_reducible rfl)
                    try simp only [Act.put, List.setIfInBounds_toArray, List.set_cons_zero, List.set_cons_succ, List.getElem_toArray, List.getElem_cons_succ, List.getElem_cons_zero]
                    refine wpAnyH_take (i := 5) (v := ?vfd5) rfl (by kernel_rfl) (by kernel_rfl) (by kernel_rfl) (fun _ _ _ h => h) (Or.inl ⟨by kernel_rfl, ?hyfd5⟩) (by assumption) ?rsfd5
                    case hyfd5 => (intro w9 hSw; skip; go_simp; try with_reducible rfl)
                    try simp only [Act.put, List.setIfInBounds_toArray, List.set_cons_zero, List.set_cons_succ, List.getElem_toArray, List.getElem_cons_succ, List.getElem_cons_zero]
                    refine wpAnyH_take (i := 6) (v := undef) rfl (by kernel_rfl) (by kernel_rfl) (by kernel_rfl) (fun _ _ _ h => h) (Or.inr ⟨by kernel_rfl, rfl⟩) (by assumption) ?rsfd6
                    try simp only [Act.put, List.setIfInBounds_toArray, List.set_cons_zero, List.set_cons_succ, List.getElem_toArray, List.getElem_cons_succ, List.getElem_cons_zero]
                    refine wpAnyH_take (i := 7) (v := undef) rfl (by kernel_rfl) (by kernel_rfl) (by kernel_rfl) (fun _ _ _ h => h) (Or.inr ⟨by kernel_rfl, rfl⟩) (by assumption) ?rsfd7
                    try simp only [Act.put, List.setIfInBounds_toArray, List.set_cons_zero, List.set_cons_succ, List.getElem_toArray, List.getElem_cons_succ, List.getElem_cons_zero]
                    refine wpAnyH_take (i := 8) (v := undef) rfl (by kernel_rfl) (by kernel_rfl) (by kernel_rfl) (fun _ _ _ h => h) (Or.inr ⟨by kernel_rfl, rfl⟩) (by assumption) ?rsfd8
                    try simp only [Act.put, List.setIfInBounds_toArray, List.set_cons_zero, List.set_cons_succ, List.getElem_toArray, List.getElem_cons_succ, List.getElem_cons_zero]
                    refine wpAnyH_take (i := 9) (v := undef) rfl (by kernel_rfl) (by kernel_rfl) (by kernel_rfl) (fun _ _ _ h => h) (Or.inr ⟨by kernel_rfl, rfl⟩) (by assumption) ?rsfd9
                    try simp only [Act.put, List.setIfInBounds_toArray, List.set_cons_zero, List.set_cons_succ, List.getElem_toArray, List.getElem_cons_succ, List.getElem_cons_zero]
                    refine wpAnyH_take (i := 10) (v := undef) rfl (by kernel_rfl) (by kernel_rfl) (by kernel_rfl) (fun _ _ _ h => h) (Or.inr ⟨by kernel_rfl, rfl⟩) (by assumption) ?rsfd10
                    try simp only [Act.put, List.setIfInBounds_toArray, List.set_cons_zero, List.set_cons_succ, List.getElem_toArray, List.getElem_cons_succ, List.getElem_cons_zero]
                    refine wpAnyH_take (i := 11) (v := undef) rfl (by kernel_rfl) (by kernel_rfl) (by kernel_rfl) (fun _ _ _ h => h) (Or.inr ⟨by kernel_rfl, rfl⟩) (by assumption) ?rsfd11
                    try simp only [Act.put, List.setIfInBounds_toArray, List.set_cons_zero, List.set_cons_succ, List.getElem_toArray, List.getElem_cons_succ, List.getElem_cons_zero]
                    refine wpAnyH_take (i := 12) (v := undef) rfl (by kernel_rfl) (by kernel_rfl) (by kernel_rfl) (fun _ _ _ h => h) (Or.inr ⟨by kernel_rfl, rfl⟩) (by assumption) ?rsfd12
                    try simp only [Act.put, List.setIfInBounds_toArray, List.set_cons_zero, List.set_cons_succ, List.getElem_toArray, List.getElem_cons_succ, List.getElem_cons_zero]
                    refine wpAnyH_take (i := 13) (v := undef) rfl (by kernel_rfl) (by kernel_rfl) (by kernel_rfl) (fun _ _ _ h => h) (Or.inr ⟨by kernel_rfl, rfl⟩) (by assumption) ?rsfd13
                    try simp only [Act.put, List.setIfInBounds_toArray, List.set_cons_zero, List.set_cons_succ, List.getElem_toArray, List.getElem_cons_succ, List.getElem_cons_zero]
                    refine wpAnyH_take (i := 14) (v := undef) rfl (by kernel_rfl) (by kernel_rfl) (by kernel_rfl) (fun _ _ _ h => h) (Or.inr ⟨by kernel_rfl, rfl⟩) (by assumption) ?rsfd14
                    try simp only [Act.put, List.setIfInBounds_toArray, List.set_cons_zero, List.set_cons_succ, List.getElem_toArray, List.getElem_cons_succ, List.getElem_cons_zero]
                    refine wpAnyH_take (i := 15) (v := undef) rfl (by kernel_rfl) (by kernel_rfl) (by kernel_rfl) (fun _ _ _ h => h) (Or.inr ⟨by kernel_rfl, rfl⟩) (by assumption) ?rsfd15
                    try simp only [Act.put, List.setIfInBounds_toArray, List.set_cons_zero, List.set_cons_succ, List.getElem_toArray, List.getElem_cons_succ, List.getElem_cons_zero]
                    refine wpAnyH_take (i := 16) (v := undef) rfl (by kernel_rfl) (by kernel_rfl) (by kernel_rfl) (fun _ _ _ h => h) (Or.inr ⟨by kernel_rfl, rfl⟩) (by assumption) ?rsfd16
                    try simp only [Act.put, List.setIfInBounds_toArray, List.set_cons_zero, List.set_cons_succ, List.getElem_toArray, List.getElem_cons_succ, List.getElem_cons_zero]
                    refine wpAnyH_take (i := 17) (v := undef) rfl (by kernel_rfl) (by kernel_rfl) (by kernel_rfl) (fun _ _ _ h => h) (Or.inr ⟨by kernel_rfl, rfl⟩) (by assumption) ?rsfd17
                    try simp only [Act.put, List.setIfInBounds_toArray, List.set_cons_zero, List.set_cons_succ, List.getElem_toArray, List.getElem_cons_succ, List.getElem_cons_zero]
                    refine wpAnyH_take (i := 18) (v := ?vfd18) rfl (by kernel_rfl) (by kernel_rfl) (by kernel_rfl) (fun _ _ _ h => h) (Or.inl ⟨by kernel_rfl, ?hyfd18⟩) (by assumption) ?rsfd18
                    case hyfd18 => (intro w9 hSw; skip; go_simp; try with_reducible rfl)
                    try simp only [Act.put, List.setIfInBounds_toArray, List.set_cons_zero, List.set_cons_succ, List.getElem_toArray, List.getElem_cons_succ, List.getElem_cons_zero]
                    refine wpAnyH_take (i := 19) (v := ?vfd19) rfl (by kernel_rfl) (by kernel_rfl) (by kernel_rfl) (fun _ _ _ h => h) (Or.inl ⟨by kernel_rfl, ?hyfd19⟩) (by assumption) ?rsfd19
                    case hyfd19 => (intro w9 hSw; skip; go_simp; try with_reducible rfl)
                    try simp only [Act.put, List.setIfInBounds_toArray, List.set_cons_zero, List.set_cons_succ, List.getElem_toArray, List.getElem_cons_succ, List.getElem_cons_zero]
                    refine wpAnyH_take (i := 20) (v := ?vfd20) rfl (by kernel_rfl) (by kernel_rfl) (by kernel_rfl) (fun _ _ _ h => h) (Or.inl ⟨by kernel_rfl, ?hyfd20⟩) (by assumption) ?rsfd20
                    case hyfd20 => (intro w9 hSw; skip; go_simp; try with_reducible rfl)
                    try simp only [Act.put, List.setIfInBounds_toArray, List.set_cons_zero, List.set_cons_succ, List.getElem_toArray, List.getElem_cons_succ, List.getElem_cons_zero]
                    refine wpAnyH_take (i := 21) (v := ?vfd21) rfl (by kernel_rfl) (by kernel_rfl) (by kernel_rfl) (fun _ _ _ h => h) (Or.inl ⟨by kernel_rfl, ?hyfd21⟩) (by assumption) ?rsfd21
                    case hyfd21 => (intro w9 hSw; skip; go_simp; try with_reducible rfl)
                    try simp only [Act.put, List.setIfInBounds_toArray, List.set_cons_zero, List.set_cons_succ, List.getElem_toArray, List.getElem_cons_succ, List.getElem_cons_zero]
                    refine wpAnyH_take (i := 22) (v := ?vfd22) rfl (by kernel_rfl) (by kernel_rfl) (by kernel_rfl) (fun _ _ _ h => h) (Or.inl ⟨by kernel_rfl, ?hyfd22⟩) (by assumption) ?rsfd22
                    case hyfd22 => (intro w9 hSw; have d := cell_quiet hSw X3.out (by simp); go_simp; try with_reducible rfl)
                    try simp only [Act.put, List.setIfInBounds_toArray, List.set_cons_zero, List.set_cons_succ, List.getElem_toArray, List.getElem_cons_succ, List.getElem_cons_zero]
                    refine wpAnyH_take (i := 23) (v := ?vfd23) rfl (by kernel_rfl) (by kernel_rfl) (by kernel_rfl) (fun _ _ _ h => h) (Or.inl ⟨by kernel_rfl, ?hyfd23⟩) (by assumption) ?rsfd23
                    case hyfd23 => (intro w9 hSw; skip; go_simp; try with_reducible rfl)
                    try simp only [Act.put, List.setIfInBounds_toArray, List.set_cons_zero, List.set_cons_succ, List.getElem_toArray, List.getElem_cons_succ, List.getElem_cons_zero]
                    refine wpAnyH_take (i := 24) (v := ?vfd24) rfl (by kernel_rfl) (by kernel_rfl) (by kernel_rfl) (fun _ _ _ h => h) (Or.inl ⟨by kernel_rfl, ?hyfd24⟩) (by assumption) ?rsfd24
                    case hyfd24 => (intro w9 hSw; skip; go_simp; try with_reducible rfl)
                    try simp only [Act.put, List.setIfInBounds_toArray, List.set_cons_zero, List.set_cons_succ, List.getElem_toArray, List.getElem_cons_succ, List.getElem_cons_zero]
                    refine wpAnyH_take (i := 25) (v := ?vfd25) rfl (by kernel_rfl) (by kernel_rfl) (by kernel_rfl) (fun _ _ _ h => h) (Or.inl ⟨by kernel_rfl, ?hyfd25⟩) (by assumption) ?rsfd25
                    case hyfd25 => (intro w9 hSw; skip; go_simp; try with_reducible rfl)
                    try simp only [Act.put, List.setIfInBounds_toArray, List.set_cons_zero, List.set_cons_succ, List.getElem_toArray, List.getElem_cons_succ, List.getElem_cons_zero]
                    refine wpAnyH_take (i := 26) (v := ?vfd26) rfl (by kernel_rfl) (by kernel_rfl) (by kernel_rfl) (fun _ _ _ h => h) (Or.inl ⟨by kernel_rfl, ?hyfd26⟩) (by assumption) ?rsfd26
                    case hyfd26 => (intro w9 hSw; skip; go_simp; try with_reducible rfl)
                    try simp only [Act.put, List.setIfInBounds_toArray, List.set_cons_zero, List.set_cons_succ, List.getElem_toArray, List.getElem_cons_succ, List.getElem_cons_zero]
                    refine wpAnyH_take (i := 27) (v := ?vfd27) rfl (by kernel_rfl) (by kernel_rfl) (by kernel_rfl) (fun _ _ _ h => h) (Or.inl ⟨by kernel_rfl, ?hyfd27⟩) (by assumption) ?rsfd27
                    case hyfd27 => (intro w9 hSw; have d := cell_quiet hSw Y3.out (by simp); go_simp; try with_reducible rfl)
                    try simp only [Act.put, List.setIfInBounds_toArray, List.set_cons_zero, List.set_cons_succ, List.getElem_toArray, List.getElem_cons_succ, List.getElem_cons_zero]
                    refine wpAnyH_take (i := 28) (v := ?vfd28) rfl (by kernel_rfl) (by kernel_rfl) (by kernel_rfl) (fun _ _ _ h => h) (Or.inl ⟨by kernel_rfl, ?hyfd28⟩) (by assumption) ?rsfd28
                    case hyfd28 => (intro w9 hSw; skip; go_simp; try with_reducible rfl)
                    try simp only [Act.put, List.setIfInBounds_toArray, List.set_cons_zero, List.set_cons_succ, List.getElem_toArray, List.getElem_cons_succ, List.getElem_cons_zero]
                    refine wpAnyH_take (i := 29) (v := ?vfd29) rfl (by kernel_rfl) (by kernel_rfl) (by kernel_rfl) (fun _ _ _ h => h) (Or.inl ⟨by kernel_rfl, ?hyfd29⟩) (by assumption) ?rsfd29
                    case hyfd29 => (intro w9 hSw; skip; go_simp; try with_reducible rfl)
                    try simp only [Act.put, List.setIfInBounds_toArray, List.set_cons_zero, List.set_cons_succ, List.getElem_toArray, List.getElem_cons_succ, List.getElem_cons_zero]
                    refine wpAnyH_take (i := 30) (v := ?vfd30) rfl (by kernel_rfl) (by kernel_rfl) (by kernel_rfl) (fun _ _ _ h => h) (Or.inl ⟨by kernel_rfl, ?hyfd30⟩) (by assumption) ?rsfd30
                    case hyfd30 => (intro w9 hSw; have d0 := cell_quiet hSw Kk0.out (by simp); have d1 := cell_quiet hSw Kk1.out (by simp); have d2 := cell_quiet hSw Kk2.out (by simp); have d3 := cell_quiet hSw Kk3.out (by simp); have d4 := cell_quiet hSw Kk4.out (by simp); have d5 := cell_quiet hSw Kk5.out (by simp); have d6 := cell_quiet hSw Kk6.out (by simp); have d7 := cell_quiet hSw Kk7.out (by simp); go_simp; try with_reducible rfl)
                    try simp only [Act.put, List.setIfInBounds_toArray, List.set_cons_zero, List.set_cons_succ, List.getElem_toArray, List.getElem_cons_succ, List.getElem_cons_zero]
                    refine wpAnyH_take (i := 31) (v := ?vfd31) rfl (by kernel_rfl) (by kernel_rfl) (by kernel_rfl) (fun _ _ _ h => h) (Or.inl ⟨by kernel_rfl, ?hyfd31⟩) (by assumption) ?rsfd31
                    case hyfd31 => (intro w9 hSw; skip; go_simp; try with_reducible rfl)
                    try simp only [Act.put, List.setIfInBounds_toArray, List.set_cons_zero, List.set_cons_succ, List.getElem_toArray, List.getElem_cons_succ, List.getElem_cons_zero]
                    refine wpAnyH_take (i := 32) (v := ?vfd32) rfl (by kernel_rfl) (by kernel_rfl) (by kernel_rfl) (fun _ _ _ h => h) (Or.inl ⟨by kernel_rfl, ?hyfd32⟩) (by assumption) ?rsfd32
                    case hyfd32 => (intro w9 hSw; have d := cell_quiet hSw Z3.out (by simp); go_simp; try with_reducible rfl)
                    try simp only [Act.put, List.setIfInBounds_toArray, List.set_cons_zero, List.set_cons_succ, List.getElem_toArray, List.getElem_cons_succ, List.getElem_cons_zero]
                    refine wpAnyH_take (i := 33) (v := ?vfd33) rfl (by kernel_rfl) (by kernel_rfl) (by kernel_rfl) (fun _ _ _ h => h) (Or.inl ⟨by kernel_rfl, ?hyfd33⟩) (by assumption) ?rsfd33
                    case hyfd33 => (intro w9 hSw; skip; go_simp; try with_reducible rfl)
                    try simp only [Act.put, List.setIfInBounds_toArray, List.set_cons_zero, List.set_cons_succ, List.getElem_toArray, List.getElem_cons_succ, List.getElem_cons_zero]
                    refine wpAnyH_take (i := 34) (v := ?vfd34) rfl (by kernel_rfl) (by kernel_rfl) (by kernel_rfl) (fun _ _ _ h => h) (Or.inl ⟨by kernel_rfl, ?hyfd34⟩) (by assumption) ?rsfd34
                    case hyfd34 => (intro w9 hSw; skip; go_simp; try with_reducible rfl)
                    try simp only [Act.put, List.setIfInBounds_toArray, List.set_cons_zero, List.set_cons_succ, List.getElem_toArray, List.getElem_cons_succ, List.getElem_cons_zero]
                    refine wpAnyH_take (i := 35) (v := ?vfd35) rfl (by kernel_rfl) (by kernel_rfl) (by kernel_rfl) (fun _ _ _ h => h) (Or.inl ⟨by kernel_rfl, ?hyfd35⟩) (by assumption) ?rsfd35
                    case hyfd35 => (intro w9 hSw; have d := cell_quiet hSw X3.out (by simp); go_simp; try with_reducible rfl)
                    try simp only [Act.put, List.setIfInBounds_toArray, List.set_cons_zero, List.set_cons_succ, List.getElem_toArray, List.getElem_cons_succ, List.getElem_cons_zero]
                    refine wpAnyH_take (i := 36) (v := ?vfd36) rfl (by kernel_rfl) (by kernel_rfl) (by kernel_rfl) (fun _ _ _ h => h) (Or.inl ⟨by kernel_rfl, ?hyfd36⟩) (by assumption) ?rsfd36
                    case hyfd36 => (intro w9 hSw; skip; go_simp; try with_reducible rfl)
                    try simp only [Act.put, List.setIfInBounds_toArray, List.set_cons_zero, List.set_cons_succ, List.getElem_toArray, List.getElem_cons_succ, List.getElem_cons_zero]
                    refine wpAnyH_take (i := 37) (v := ?vfd37) rfl (by kernel_rfl) (by kernel_rfl) (by kernel_rfl) (fun _ _ _ h => h) (Or.inl ⟨by kernel_rfl, ?hyfd37⟩) (by assumption) ?rsfd37
                    case hyfd37 => (intro w9 hSw; skip; go_simp; try with_reducible rfl)
                    try simp only [Act.put, List.setIfInBounds_toArray, List.set_cons_zero, List.set_cons_succ, List.getElem_toArray, List.getElem_cons_succ, List.getElem_cons_zero]
                    refine wpAnyH_take (i := 38) (v := ?vfd38) rfl (by kernel_rfl) (by kernel_rfl) (by kernel_rfl) (fun _ _ _ h => h) (Or.inl ⟨by kernel_rfl, ?hyfd38⟩) (by assumption) ?rsfd38
                    case hyfd38 => (intro w9 hSw; skip; go_simp; try with_reducible rfl)
                    try simp only [Act.put, List.setIfInBounds_toArray, List.set_cons_zero, List.set_cons_succ, List.getElem_toArray, List.getElem_cons_succ, List.getElem_cons_zero]
                    refine wpAnyH_take (i := 39) (v := ?vfd39) rfl (by kernel_rfl) (by kernel_rfl) (by kernel_rfl) (fun _ _ _ h => h) (Or.inl ⟨by kernel_rfl, ?hyfd39⟩) (by assumption) ?rsfd39
                    case hyfd39 => (intro w9 hSw; have d0 := cell_quiet hSw Kl0.out (by simp); have d1 := cell_quiet hSw Kl1.out (by simp); have d2 := cell_quiet hSw Kl2.out (by simp); have d3 := cell_quiet hSw Kl3.out (by simp); have d4 := cell_quiet hSw Kl4.out (by simp); have d5 := cell_quiet hSw Kl5.out (by simp); have d6 := cell_quiet hSw Kl6.out (by simp); have d7 := cell_quiet hSw Kl7.out (by simp); go_simp; try with_reducible rfl)
                    try simp only [Act.put, List.setIfInBounds_toArray, List.set_cons_zero, List.set_cons_succ, List.getElem_toArray, List.getElem_cons_succ, List.getElem_cons_zero]
                    refine wpAnyH_ready (rs := [40]) (by kernel_rfl) (by simp) (AllReadyH.cons rfl (fun K hK => ?_) AllReadyH.nil)
                    go_simp
                    refine samelevel_r (b := false) (p := x) (q := y) HSI (Lib.hid (Ta.out.keep hHeld (TyB.nil _ _ _))) (Lib.hid (Tb.out.keep hHeld (TyB.nil _ _ _))) (fun w9 hcx => ?_)
                    refine hK.out _ _ (hHeld.trans hcx (by simp)) (fun hHeld => ?_)
                    clear hK K
                    try simp only [Act.put, List.setIfInBounds_toArray, List.set_cons_zero, List.set_cons_succ, List.getElem_toArray, List.getElem_cons_succ, List.getElem_cons_zero]
                    refine wpAnyH_take (i := 41) (v := ?vfd41) rfl (by kernel_rfl) (by kernel_rfl) (by kernel_rfl) (fun _ _ _ h => h) (Or.inl ⟨by kernel_rfl, ?hyfd41⟩) (by assumption) ?rsfd41
                    case hyfd41 => (intro w9 hSw; skip; go_simp; try with_reducible rfl)
                    try simp only [Act.put, List.setIfInBounds_toArray, List.set_cons_zero, List.set_cons_succ, List.getElem_toArray, List.getElem_cons_succ, List.getElem_cons_zero]
                    refine wpAnyH_take (i := 42) (v := ?vfd42) rfl (by kernel_rfl) (by kernel_rfl) (by kernel_rfl) (fun _ _ _ h => h) (Or.inl ⟨by kernel_rfl, ?hyfd42⟩) (by assumption) ?rsfd42
                    case hyfd42 => (intro w9 hSw; skip; go_simp; try with_reducible rfl)
                    try simp only [Act.put, List.setIfInBounds_toArray, List.set_cons_zero, List.set_cons_succ, List.getElem_toArray, List.getElem_cons_succ, List.getElem_cons_zero]
                    refine wpAnyH_take (i := 43) (v := ?vfd43) rfl (by kernel_rfl) (by kernel_rfl) (by kernel_rfl) (fun _ _ _ h => h) (Or.inl ⟨by kernel_rfl, ?hyfd43⟩) (by assumption) ?rsfd43
                    case hyfd43 => (intro w9 hSw; skip; go_simp; try with_reducible rfl)
                    try simp only [Act.put, List.setIfInBounds_toArray, List.set_cons_zero, List.set_cons_succ, List.getElem_toArray, List.getElem_cons_succ, List.getElem_cons_zero]
                    refine wpAnyH_done (by kernel_rfl) ?_ _
                    try simp only [Act.put, List.setIfInBounds_toArray, List.set_cons_zero, List.set_cons_succ, List.getElem_toArray, List.getElem_cons_succ, List.getElem_cons_zero]
                    have HH9 := Lib.hid hHeld
                    clear hHeld hcx
                    have HC10 : Hid (Chg [] vc w9) := Lib.hid (HCR.out.trans HH9.out (by simp))
                    go_wp2_with fail
                    refine ⟨?_, by simp [intN]; omega⟩
                    first | exact ⟨j + 1, vintP (by omega), by omega, HC10⟩ | ((repeat apply Exists.intro); exact ⟨⟨j + 1, vintP (by omega), by omega, HC10⟩, rfl⟩)
                · have q1 : ¬ (j : Int) < (n8 : Int) := by omega
                  go_wp2_with fail
                  go_ret
                  exact ⟨rfl, HC9.out.trans HCR.out (by simp)⟩
          · have b3 : (4000 : Int) < ((nl + nm : Nat) : Int) := by omega
            clear e1 e2 e3
            go_wp2_with fail
            go_ret
            exact ⟨rfl, HC.out⟩
        · have b2 : ((fr : Int) != 0) = true := bne_iff_ne.2 (by omega)
          clear e1 e2
          go_wp2_with fail
          go_ret
          exact ⟨rfl, HC.out⟩
      · have b1 : ((er : Int) != 0) = true := bne_iff_ne.2 (by omega)
        clear e1
        go_wp2_with fail
        go_ret
        exact ⟨rfl, HC.out⟩
    · have q1 : ¬ (4000 : Int) < (sb.size : Int) := by rw [hsz]; omega
      have q2 : (4000 : Int) < (mb.size : Int) := by rw [hmz]; omega
      go_wp2_with fail
      go_ret
      exact ⟨rfl, HC1.out⟩
  · have q1 : (4000 : Int) < (sb.size : Int) := by rw [hsz]; omega
    go_wp2_with fail
    go_ret
    exact ⟨rfl, HC1.out⟩
end Go.Proofs.YtocadlcglgpdcaaDoor
