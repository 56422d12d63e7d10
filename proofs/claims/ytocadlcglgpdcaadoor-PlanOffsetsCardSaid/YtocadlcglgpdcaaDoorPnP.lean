/-
  Plan, layer 15: the map of closures. Printed by genpnp06.py.
-/
import Derived.Test.YtocadlcglgpdcaaDoorPnO
namespace Go.Proofs.YtocadlcglgpdcaaDoor
set_option linter.unusedVariables false
set_option linter.unusedSimpArgs false
open Go Go.RowKit Go.Shelf Go.MapKept
open Lx (Tk)
def kvF : List (List UInt8) → List Value → List (Value × Value)
  | x :: r, v :: vs => (.string ⟨x.toArray⟩, v) :: kvF r vs
  | _, _ => []
def valIn : List (List UInt8) → List Value → List UInt8 → Value → Value
  | x :: r, v :: vs, t, z => if t = x then v else valIn r vs t z
  | _, _, _, z => z
theorem lookIn_kvF (t : List UInt8) (z : Value) : ∀ (l : List (List UInt8)) (vs : List Value) (ck i : Nat), (match Instr.findNow .string (.string ⟨t.toArray⟩) (entsOf ck (kvF l vs)) i with
    | some (some r) => r.2
    | _ => z) = valIn l vs t z
  | [], vs, ck, i => by cases vs <;> rfl
  | x :: l, [], ck, i => rfl
  | x :: l, v :: vs, ck, i => by
    rw [kvF, entsOf, Instr.findNow, sameNow_str, valIn]
    by_cases h : t = x
    · rw [if_pos h, decide_eq_true h]
    · rw [if_neg h, decide_eq_false h]
      exact lookIn_kvF t z l vs (ck + 1) (i + 1)
theorem entsOf_keyF : ∀ (l : List (List UInt8)) (vs : List Value) (ck : Nat), ∀ x ∈ entsOf ck (kvF l vs), IsKey .string x.key
  | [], vs, _, x, h => by cases vs <;> simp [kvF, entsOf] at h
  | y :: r, [], _, x, h => by simp [kvF, entsOf] at h
  | y :: r, v :: vs, c, x, h => by
    rw [kvF, entsOf] at h
    rcases List.mem_cons.1 h with rfl | h
    · exact trivial
    · exact entsOf_keyF r vs (c + 1) x h
def itemFs (BL BP : Nat) : List Value := [.func (.func 47) #[] #[.pointer (some ⟨BL, 0, none⟩), .pointer (some ⟨BP, 0, none⟩)], .func (.func 49) #[] #[.pointer (some ⟨BP, 0, none⟩), .pointer (some ⟨BL, 0, none⟩)], .func (.func 51) #[] #[.pointer (some ⟨BL, 0, none⟩), .pointer (some ⟨BP, 0, none⟩)], .func (.func 52) #[] #[.pointer (some ⟨BL, 0, none⟩), .pointer (some ⟨BP, 0, none⟩)], .func (.func 53) #[] #[.pointer (some ⟨BP, 0, none⟩), .pointer (some ⟨BL, 0, none⟩)]]
def itemE (BL BP : Nat) : List MapEntry := entsOf 0 (kvF Pn.sortsL (itemFs BL BP))
/-- The closure of a sort; none if there is none. -/
def itemF (BL BP k : Nat) : Value := if k = 1 then .func (.func 47) #[] #[.pointer (some ⟨BL, 0, none⟩), .pointer (some ⟨BP, 0, none⟩)] else if k = 2 then .func (.func 49) #[] #[.pointer (some ⟨BP, 0, none⟩), .pointer (some ⟨BL, 0, none⟩)] else if k = 3 then .func (.func 51) #[] #[.pointer (some ⟨BL, 0, none⟩), .pointer (some ⟨BP, 0, none⟩)] else if k = 4 then .func (.func 52) #[] #[.pointer (some ⟨BL, 0, none⟩), .pointer (some ⟨BP, 0, none⟩)] else if k = 5 then .func (.func 53) #[] #[.pointer (some ⟨BP, 0, none⟩), .pointer (some ⟨BL, 0, none⟩)] else .nilFunc
theorem zero_func (w : World) : (zeroValue 91).run Tryd.prog w = .ok .nilFunc w := by kernel_rfl
theorem look_items {w : World} {M ck BL BP : Nat} (hb : MapB w M (itemE BL BP) ck) (t : Bytes) : (Instr.lookup 88 (.map (some M)) (.string ⟨t.toArray⟩) false).run Tryd.prog w = .ok (itemF BL BP (Rl.codeIn Pn.sortsL 1 t)) w := by
  have h := run_look (P := Tryd.prog) Tryd.underlying88 Tryd.underlying9 (zero_func w) hb (d := .string) (key := .string ⟨t.toArray⟩) trivial (entsOf_keyF _ _ 0)
  rw [h]
  have h2 : lookIn .string (.string ⟨t.toArray⟩) (itemE BL BP) .nilFunc = valIn Pn.sortsL (itemFs BL BP) t .nilFunc := lookIn_kvF t .nilFunc Pn.sortsL (itemFs BL BP) 0 0
  rw [h2]
  suffices h3 : valIn Pn.sortsL (itemFs BL BP) t .nilFunc = itemF BL BP (Rl.codeIn Pn.sortsL 1 t) by rw [h3]
  clear h h2
  unfold itemF
  simp only [valIn, Rl.codeIn, Pn.sortsL, itemFs]
  by_cases e1 : t = [98, 108, 111, 99, 107]
  · simp [e1]
  · by_cases e2 : t = [97, 114, 101, 97]
    · simp [e1, e2]
    · by_cases e3 : t = [97, 105, 115, 108, 101]
      · simp [e1, e2, e3]
      · by_cases e4 : t = [112, 105, 108, 108, 97, 114]
        · simp [e1, e2, e3, e4]
        · by_cases e5 : t = [100, 111, 111, 114]
          · simp [e1, e2, e3, e4, e5]
          · simp [e1, e2, e3, e4, e5]
set_option maxHeartbeats 2000000 in
set_option maxRecDepth 100000 in
theorem items_r {w : World} {b D : Nat} {R : Ending → World → Prop}
    (h : ∀ (M BP BL : Nat) (w' : World), Hid (Blk w' BP [.pointer (some ⟨b, 0, none⟩)] 67) → Hid (Blk w' BL [.pointer (some ⟨D, 0, none⟩)] 90) → Hid (MapB w' M (itemE BL BP) 5) → Hid (w.heap.size ≤ BP ∧ BP < BL ∧ BL < M) → Hid (Chg [] w w') → R (.returned (.map (some M))) w') :
    Calls Tryd.prog 36 #[.pointer (some ⟨b, 0, none⟩), .pointer (some ⟨D, 0, none⟩)] w R := by
  refine (show Calls Tryd.prog 36 #[.pointer (some ⟨b, 0, none⟩), .pointer (some ⟨D, 0, none⟩)] w (fun e w' => ∃ M BP BL : Nat, e = .returned (.map (some M)) ∧ Hid (Blk w' BP [.pointer (some ⟨b, 0, none⟩)] 67) ∧ Hid (Blk w' BL [.pointer (some ⟨D, 0, none⟩)] 90) ∧ Hid (MapB w' M (itemE BL BP) 5) ∧ Hid (w.heap.size ≤ BP ∧ BP < BL ∧ BL < M) ∧ Hid (Chg [] w w')) from ?_).mono (fun e w' hx => by obtain ⟨M, BP, BL, rfl, h1, h2, h3, h4, h5⟩ := hx; exact h M BP BL w' h1 h2 h3 h4 h5)
  clear h
  have hmm := @run_makeMap Tryd.prog
  have hmf : ∀ (fn : Fn) (first cap : Array Value) (w : World), (Instr.makeFunc fn first cap).run Tryd.prog w = .ok (.func fn first cap) w := fun _ _ _ _ => rfl
  go_enter Tryd.func36, Tryd.ntmps36
  go_upto_region 1 with fail
  obtain ⟨W1, hW⟩ : ∃ W, W = ((w.alloc (.cells #[.pointer (some ⟨b, 0, none⟩)] 67)).alloc (.cells #[.pointer (some ⟨D, 0, none⟩)] 90)) := ⟨_, rfl⟩
  rw [← hW]
  obtain ⟨BL, hBL⟩ : ∃ T, T = w.heap.size + 1 := ⟨_, rfl⟩
  try rw [← hBL]
  obtain ⟨BP, hBP⟩ : ∃ T, T = w.heap.size := ⟨_, rfl⟩
  try rw [← hBP]
  have OBP : Hid (w.heap.size ≤ BP) := Lib.hid (by rw [hBP]; exact Nat.le_refl _)
  have OBL : Hid (BP < BL) := Lib.hid (by rw [hBL, hBP]; omega)
  have HBP_1 : Hid (Blk W1 BP [.pointer (some ⟨b, 0, none⟩)] 67) := Lib.hid (by
    have h1 := Blk.new w [.pointer (some ⟨b, 0, none⟩)] 67
    have h2 : w.heap.size = BP := by simp [hBP]
    rw [h2] at h1
    rw [hW]
    exact (h1.alloc _))
  have HBL_1 : Hid (Blk W1 BL [.pointer (some ⟨D, 0, none⟩)] 90) := Lib.hid (by
    have h1 := Blk.new (w.alloc (.cells #[.pointer (some ⟨b, 0, none⟩)] 67)) [.pointer (some ⟨D, 0, none⟩)] 90
    have h2 : (w.alloc (.cells #[.pointer (some ⟨b, 0, none⟩)] 67)).heap.size = BL := by simp [hBL]
    rw [h2] at h1
    rw [hW]
    exact h1)
  have C1 : Hid (Chg [] w W1) := Lib.hid (by rw [hW]; exact (((Chg.refl [] w).alloc _).alloc _))
  clear hW hBP hBL
  go_wp2_with (first
        | (refine wpList_insert_new rfl rfl (.tmp 5) (.const (.string ⟨#[98, 108, 111, 99, 107]⟩)) (.tmp 6) 88 rfl 9 91 .string Tryd.underlying88 Tryd.underlying9 W1.heap.size rfl _ _ rfl rfl trivial (MapB.new W1) (by rfl) ?_; intro wm1 hm1 hcm1 hsm1)
        | (refine wpList_insert_new rfl rfl (.tmp 5) (.const (.string ⟨#[97, 114, 101, 97]⟩)) (.tmp 7) 88 rfl 9 91 .string Tryd.underlying88 Tryd.underlying9 W1.heap.size rfl _ _ rfl rfl trivial hm1 (by rfl) ?_; intro wm2 hm2 hcm2 hsm2)
        | (refine wpList_insert_new rfl rfl (.tmp 5) (.const (.string ⟨#[97, 105, 115, 108, 101]⟩)) (.tmp 8) 88 rfl 9 91 .string Tryd.underlying88 Tryd.underlying9 W1.heap.size rfl _ _ rfl rfl trivial hm2 (by rfl) ?_; intro wm3 hm3 hcm3 hsm3)
        | (refine wpList_insert_new rfl rfl (.tmp 5) (.const (.string ⟨#[112, 105, 108, 108, 97, 114]⟩)) (.tmp 9) 88 rfl 9 91 .string Tryd.underlying88 Tryd.underlying9 W1.heap.size rfl _ _ rfl rfl trivial hm3 (by rfl) ?_; intro wm4 hm4 hcm4 hsm4)
        | (refine wpList_insert_new rfl rfl (.tmp 5) (.const (.string ⟨#[100, 111, 111, 114]⟩)) (.tmp 10) 88 rfl 9 91 .string Tryd.underlying88 Tryd.underlying9 W1.heap.size rfl _ _ rfl rfl trivial hm4 (by rfl) ?_; intro wm5 hm5 hcm5 hsm5))
  obtain ⟨M, hM⟩ : ∃ M, M = W1.heap.size := ⟨_, rfl⟩
  rw [← hM] at hm5 hcm1 hcm2 hcm3 hcm4 hcm5
  try rw [← hM]
  have HC5 : Hid (Chg [] W1 wm5) := Lib.hid (((Chg.refl [] W1).alloc (.map #[] 0)).trans ((((hcm1.trans hcm2 (by simp)).trans hcm3 (by simp)).trans hcm4 (by simp)).trans hcm5 (by simp)) (fun k hk => .inr (by simp at hk; omega)))
  refine bodyPost_ret (v := .map (some M)) (by simp [results, Tryd.results36, go_sem]) rfl ?_
  exact ⟨M, BP, BL, rfl, Lib.hid (HC5.out.blk HBP_1.out (by simp)), Lib.hid (HC5.out.blk HBL_1.out (by simp)), Lib.hid hm5, Lib.hid ⟨OBP.out, OBL.out, by rw [hM]; exact HBL_1.out.lt⟩, Lib.hid (C1.out.trans HC5.out (by simp))⟩
end Go.Proofs.YtocadlcglgpdcaaDoor

