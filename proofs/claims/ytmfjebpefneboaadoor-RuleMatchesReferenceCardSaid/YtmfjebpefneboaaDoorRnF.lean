/-
  Rule: the reference parser in memory: test. Printed by genrnf07.py.
-/
import Derived.Test.YtmfjebpefneboaaDoorRnBE
namespace Go.Proofs.YtmfjebpefneboaaDoor
set_option linter.unusedVariables false
set_option linter.unusedSimpArgs false
open Go Go.RowKit Go.Shelf
open Lx (Tk)
open Rl (RSt)
theorem own_ge {w : World} {base : Nat} {e : TypeId} {size : Nat} {v : Value} {n : Nat} {xs : List Value} (h : w.ownsRow base e size v n xs) : ∀ k, v.ownBlock = some k → base ≤ k := by
  rcases h.2 with ⟨rfl, _⟩ | ⟨g, cap, cur, rfl, hb, _⟩
  · intro k hk
    cases hk
  · intro k hk
    simp only [Value.ownBlock, Option.some.injEq] at hk
    omega
/-- A block of another type stays when a row is appended to. -/
theorem grown_blk {w w' : World} {b : Nat} {cs : List Value} {T E : TypeId} {base size n : Nat} {v : Value} {xs : List Value} (hb : Blk w b cs T) (hg : w.grownBy w' v.ownBlock) (ho : w.ownsRow base E size v n xs) (hne : T ≠ E) : Blk w' b cs T := by
  refine (hg.block b hb.lt (fun e => ?_)).trans hb
  rcases ho.2 with ⟨rfl, _⟩ | ⟨g, cap, cur, rfl, _, hgg, _⟩
  · simp [Value.ownBlock] at e
  · simp only [Value.ownBlock, Option.some.injEq] at e
    subst e
    unfold Blk at hb
    rw [hgg] at hb
    simp only [Option.some.injEq, Obj.cells.injEq] at hb
    exact hne hb.2.1.symm
/-- An append of one element. -/
theorem wpList_snoc {P : Program} {w : World} {ops : Array Oper} {rest : List Oper} {o : Oper} {a : Act} {Q : Exit → Act → World → Prop} (hgd : o.guard = none) (s x : Operand) (t : TypeId)
    (ho : o.op = .call { callee := .builtin .append, args := #[s, x], argTypes := #[t, t] })
    (e : TypeId) (i : TypeInfo) (z : Value) (size bytes : Nat) (ht : P.underlying t = some (.slice e)) (hi : P.info? e = some i) (hz : i.zero = some z)
    (hsize : i.size = size) (hby : i.bytes = bytes) (hzs : z.cells.size = size) (hsz : 0 < size)
    {α : Type} {C : α → List Value → World → Prop} {B : Nat} {Es : List TypeId} {l : List α} (v : Value) (n : Nat) (hs : a.eval s = v) (HL : ListS B e size C l v w) (hln : l.length = n) (hK : Kp B Es C) (hE : e ∉ Es)
    (el : α) (cs : List Value) (hC : C el cs w) (hlen : cs.length = size) (hone : ∀ u ∈ cs, u.oneCell' = true) (g : Nat) (hx : a.eval x = .slice (some ⟨g, 0, none⟩) 1 1) (hb : Blk w g cs e)
    (h63 : n + 1 ≤ maxLen) (hbytes : (n + 1) * bytes ≤ 140737488355328) (hbase : B ≤ w.heap.size)
    (h : ∀ ao cap w', ListS B e size C (l ++ [el]) (.slice ao (n + 1) cap) w' → (∀ own w0, Chg own w0 w → w0.heap.size ≤ B → Chg own w0 w') → (∀ b ds T, Blk w b ds T → b < B ∨ T ≠ e → Blk w' b ds T) → wpList P ops Q rest (a.put o.dst (.slice ao (n + 1) cap)) w') :
    wpList P ops Q (o :: rest) a w := by
  obtain ⟨css, h1, h2, h3⟩ := HL
  rw [hln] at h3
  refine wpList_append_own w hgd s x t ho B e i z size bytes ht hi hz hsize hby hzs hsz v n css.flatten hs h3 ⟨g, 0, none⟩ 1 1 cs hx (by rw [hlen, Nat.one_mul]) (fun j u hj => by rw [addr_add, Nat.zero_add]; exact hb.cell hj) hone h63 hbytes hbase fun v' w' h4 h5 _ => ?_
  obtain ⟨ao, cap, rfl⟩ := owns_form h4
  refine h ao cap w' (ListS.snoc h1 h2 (by rw [hln]; exact h3) hK hE hlen hC h5 (by rw [hln]; exact h4)) (fun own w0 hc hb' => hc.grown h5 (fun k hk => .inr (Nat.le_trans hb' (own_ge h3 k hk)))) (fun b ds T hbb hor => ?_)
  rcases hor with hor | hor
  · refine (h5.block b hbb.lt (fun e => ?_)).trans hbb
    have := own_ge h3 b e.symm
    omega
  · exact grown_blk hbb h5 h3 hor
theorem take_snoc {α : Type} {l : List α} {j : Nat} {a : α} (h : l[j]? = some a) : l.take (j + 1) = l.take j ++ [a] := by
  rw [List.take_add_one, h]
  rfl
theorem lastIs_snoc (s : RSt) (k : Nat) (x : Bytes) : ∀ (l : List Bytes) (i o : Nat), s.lastIs k (l ++ [x]) i o = if s.is k x = true then i + l.length else s.lastIs k l i o
  | [], i, o => by
    show s.lastIs k [x] i o = _
    unfold RSt.lastIs
    rfl
  | y :: r, i, o => by
    show s.lastIs k (r ++ [x]) (i + 1) _ = _
    rw [lastIs_snoc s k x r]
    have : i + 1 + r.length = i + (y :: r).length := by simp; omega
    rw [this]
    rfl
theorem lastIs_cons {s : RSt} {k : Nat} : ∀ {l : List Bytes} {i o : Nat}, s.lastIs k l i o ≠ o → s.err = 0 ∧ ∃ t r, s.l = t :: r
  | [], i, o, h => absurd rfl h
  | y :: r, i, o, h => by
    by_cases hy : s.is k y = true
    · obtain ⟨h1, t, q, h2, _⟩ := is_cons hy
      exact ⟨h1, t, q, h2⟩
    · refine lastIs_cons (s := s) (k := k) (l := r) (i := i + 1) (o := o) (fun e => h ?_)
      show s.lastIs k r (i + 1) (if s.is k y = true then i else o) = o
      rw [if_neg hy]
      exact e
theorem take_small {en : Nat} {s s' : RSt} {t : Tk} {k : Nat} (h : s.take en k = (t, s')) (hs : Sm s.l) : t.text.length ≤ 100000 ∧ Sm s'.l := by
  unfold RSt.take at h
  split at h
  · rename_i hi
    obtain ⟨_, u, r, hl, _⟩ := is_cons hi
    simp only [Prod.mk.injEq] at h
    obtain ⟨rfl, rfl⟩ := h
    unfold RSt.hd RSt.tl
    rw [hl]
    rw [hl] at hs
    exact ⟨hs u (by simp), fun v hv => hs v (by simp at hv; simp [hv])⟩
  · simp only [Prod.mk.injEq] at h
    obtain ⟨rfl, rfl⟩ := h
    rw [fail_l]
    exact ⟨by decide, hs⟩
theorem word_small {en : Nat} {s : RSt} {x : Bytes} (hs : Sm s.l) : Sm (s.word en x).l := by
  unfold RSt.word
  split
  · exact fun v hv => hs v (List.mem_of_mem_tail hv)
  · rw [fail_l]
    exact hs
theorem join3l (a c : Bytes) : ((⟨a.toArray⟩ : ByteArray) ++ (⟨#[46]⟩ : ByteArray)) ++ ⟨c.toArray⟩ = ⟨(a ++ ([46] ++ c)).toArray⟩ := by
  apply ByteArray.ext
  apply Array.ext'
  simp
theorem tl_small {s : RSt} (hs : Sm s.l) : Sm s.tl.l := fun v hv => hs v (List.mem_of_mem_tail hv)
set_option maxHeartbeats 4000000 in
set_option maxRecDepth 100000 in
theorem test_r {w : World} {en : Nat} {s : RSt} {ao : Option Addr} {cap : Nat} (HT : Hid (TokS w (.slice ao s.l.length cap) s.l)) (HSM : Hid (Sm s.l)) {R : Ending → World → Prop}
    (h : ∀ (a : Rl.Tst) (s' : RSt) (ao' : Option Addr) (cap' : Nat) (w' : World), Hid (s.test en = (a, s')) → Hid (Suf ao cap s.l ao' cap' s'.l) → Hid (Chg [] w w') → R (.returned (.tuple #[.agg #[.string ⟨a.attr.toArray⟩, .int .i64 (a.op : Nat), .string ⟨a.name.toArray⟩, .int .i64 (a.n : Nat), .int .i64 (a.at_ : Nat)], .agg #[.slice ao' s'.l.length cap', .int .i64 (en : Int), .int .i64 (s'.err : Int), .int .i64 (s'.at_ : Int)]])) w') :
    Calls Tryd.prog 60 #[.agg #[.slice ao s.l.length cap, .int .i64 (en : Int), .int .i64 (s.err : Int), .int .i64 (s.at_ : Int)]] w R := by
  refine (show Calls Tryd.prog 60 #[.agg #[.slice ao s.l.length cap, .int .i64 (en : Int), .int .i64 (s.err : Int), .int .i64 (s.at_ : Int)]] w (fun e w' => ∃ a s' ao' cap', Hid (s.test en = (a, s')) ∧ Hid (Suf ao cap s.l ao' cap' s'.l) ∧ Hid (Chg [] w w') ∧ e = .returned (.tuple #[.agg #[.string ⟨a.attr.toArray⟩, .int .i64 (a.op : Nat), .string ⟨a.name.toArray⟩, .int .i64 (a.n : Nat), .int .i64 (a.at_ : Nat)], .agg #[.slice ao' s'.l.length cap', .int .i64 (en : Int), .int .i64 (s'.err : Int), .int .i64 (s'.at_ : Int)]])) from ?_).mono (fun e w' hx => by obtain ⟨a, s', ao', cap', h1, h2, h3, h4⟩ := hx; subst h4; exact h a s' ao' cap' w' h1 h2 h3)
  clear h
  go_enter Tryd.func60, Tryd.ntmps60
  go_upto_region 1 with fail
  obtain ⟨W1, hW⟩ : ∃ W, W = (((w.alloc (.cells #[.slice ao s.l.length cap, .int .i64 (en : Int), .int .i64 (s.err : Int), .int .i64 (s.at_ : Int)] 63)).alloc (.cells #[.string ⟨#[]⟩, .int .i64 0, .string ⟨#[]⟩, .int .i64 0, .int .i64 0] 48)).alloc (.cells #[.slice none 0 0, .int .i64 0, .int .i64 0, .int .i64 0] 63)) := ⟨_, rfl⟩
  rw [← hW]
  obtain ⟨X3, hX3⟩ : ∃ T, T = w.heap.size + 1 + 1 := ⟨_, rfl⟩
  try rw [← hX3]
  obtain ⟨X2, hX2⟩ : ∃ T, T = w.heap.size + 1 := ⟨_, rfl⟩
  try rw [← hX2]
  obtain ⟨X1, hX1⟩ : ∃ T, T = w.heap.size := ⟨_, rfl⟩
  try rw [← hX1]
  have OX1 : Hid (w.heap.size ≤ X1) := Lib.hid (by rw [hX1]; exact Nat.le_refl _)
  have OX2 : Hid (X1 < X2) := Lib.hid (by rw [hX2, hX1]; omega)
  have OX3 : Hid (X2 < X3) := Lib.hid (by rw [hX3, hX2]; omega)
  have HX1_1 : Hid (Blk W1 X1 [.slice ao s.l.length cap, .int .i64 (en : Int), .int .i64 (s.err : Int), .int .i64 (s.at_ : Int)] 63) := Lib.hid (by
    have h1 := Blk.new w [.slice ao s.l.length cap, .int .i64 (en : Int), .int .i64 (s.err : Int), .int .i64 (s.at_ : Int)] 63
    have h2 : w.heap.size = X1 := by simp [hX1]
    rw [h2] at h1
    rw [hW]
    exact ((h1.alloc _).alloc _))
  have HX2_1 : Hid (Blk W1 X2 [.string ⟨#[]⟩, .int .i64 0, .string ⟨#[]⟩, .int .i64 0, .int .i64 0] 48) := Lib.hid (by
    have h1 := Blk.new (w.alloc (.cells #[.slice ao s.l.length cap, .int .i64 (en : Int), .int .i64 (s.err : Int), .int .i64 (s.at_ : Int)] 63)) [.string ⟨#[]⟩, .int .i64 0, .string ⟨#[]⟩, .int .i64 0, .int .i64 0] 48
    have h2 : (w.alloc (.cells #[.slice ao s.l.length cap, .int .i64 (en : Int), .int .i64 (s.err : Int), .int .i64 (s.at_ : Int)] 63)).heap.size = X2 := by simp [hX2]
    rw [h2] at h1
    rw [hW]
    exact (h1.alloc _))
  have HX3_1 : Hid (Blk W1 X3 [.slice none 0 0, .int .i64 0, .int .i64 0, .int .i64 0] 63) := Lib.hid (by
    have h1 := Blk.new ((w.alloc (.cells #[.slice ao s.l.length cap, .int .i64 (en : Int), .int .i64 (s.err : Int), .int .i64 (s.at_ : Int)] 63)).alloc (.cells #[.string ⟨#[]⟩, .int .i64 0, .string ⟨#[]⟩, .int .i64 0, .int .i64 0] 48)) [.slice none 0 0, .int .i64 0, .int .i64 0, .int .i64 0] 63
    have h2 : ((w.alloc (.cells #[.slice ao s.l.length cap, .int .i64 (en : Int), .int .i64 (s.err : Int), .int .i64 (s.at_ : Int)] 63)).alloc (.cells #[.string ⟨#[]⟩, .int .i64 0, .string ⟨#[]⟩, .int .i64 0, .int .i64 0] 48)).heap.size = X3 := by simp [hX3]
    rw [h2] at h1
    rw [hW]
    exact h1)
  have C1 : Hid (Chg [] w W1) := Lib.hid (by rw [hW]; exact ((((Chg.refl [] w).alloc _).alloc _).alloc _))
  clear hW hX1 hX2 hX3
  have cX1_0 := HX1_1.out.cell (i := 0) rfl
  have cX1_1 := HX1_1.out.cell (i := 1) rfl
  have cX1_2 := HX1_1.out.cell (i := 2) rfl
  have cX1_3 := HX1_1.out.cell (i := 3) rfl
  go_wp2_with fail
  clear cX1_0 cX1_1 cX1_2 cX1_3
  refine take_r (Lib.hid (HT.out.quiet C1.out)) 1 (fun t1 s1 ao1 cap1 w1 HE1 HS1 D1 => ?_)
  have HX1_2 : Hid (Blk w1 X1 [.slice ao s.l.length cap, .int .i64 (en : Int), .int .i64 (s.err : Int), .int .i64 (s.at_ : Int)] 63) := Lib.hid (D1.out.blk HX1_1.out (by simp))
  have HX2_2 : Hid (Blk w1 X2 [.string ⟨#[]⟩, .int .i64 0, .string ⟨#[]⟩, .int .i64 0, .int .i64 0] 48) := Lib.hid (D1.out.blk HX2_1.out (by simp))
  have HX3_2 : Hid (Blk w1 X3 [.slice none 0 0, .int .i64 0, .int .i64 0, .int .i64 0] 63) := Lib.hid (D1.out.blk HX3_1.out (by simp))
  have C2 : Hid (Chg [] w w1) := Lib.hid (C1.out.trans D1.out (by simp))
  have cX1_0 := fun o0 : Obj => (HX1_2.out.alloc o0).cell (i := 0) rfl
  have cX1_1 := fun o0 : Obj => (HX1_2.out.alloc o0).cell (i := 1) rfl
  have cX1_2 := fun o0 : Obj => (HX1_2.out.alloc o0).cell (i := 2) rfl
  have cX1_3 := fun o0 : Obj => (HX1_2.out.alloc o0).cell (i := 3) rfl
  have cX1_f0 := fun o0 : Obj => (HX1_2.out.alloc o0).free 0
  have cX1_f1 := fun o0 : Obj => (HX1_2.out.alloc o0).free 1
  have cX1_f2 := fun o0 : Obj => (HX1_2.out.alloc o0).free 2
  have cX1_f3 := fun o0 : Obj => (HX1_2.out.alloc o0).free 3
  go_upto_region 2 with fail
  clear cX1_0 cX1_1 cX1_2 cX1_3 cX1_f0 cX1_f1 cX1_f2 cX1_f3
  have NX2_X1 : X2 ≠ X1 := by have OX1_ := OX1.out; have OX2_ := OX2.out; have OX3_ := OX3.out; omega
  have NX1_X2 : X1 ≠ X2 := NX2_X1.symm
  have NX3_X1 : X3 ≠ X1 := by have OX1_ := OX1.out; have OX2_ := OX2.out; have OX3_ := OX3.out; omega
  have NX1_X3 : X1 ≠ X3 := NX3_X1.symm
  obtain ⟨W3, hW⟩ : ∃ W, W = (((((w1.alloc (.cells #[.int .i64 (t1.kind : Nat), .string ⟨t1.text.toArray⟩, .int .i64 (t1.n : Nat), .int .i64 (t1.at_ : Nat)] 44)).setCell ⟨X1, 0, none⟩ (.slice ao1 s1.l.length cap1)).setCell ⟨X1, 1, none⟩ (.int .i64 (en : Int))).setCell ⟨X1, 2, none⟩ (.int .i64 (s1.err : Int))).setCell ⟨X1, 3, none⟩ (.int .i64 (s1.at_ : Int))) := ⟨_, rfl⟩
  rw [← hW]
  obtain ⟨X4, hX4⟩ : ∃ T, T = w1.heap.size := ⟨_, rfl⟩
  try rw [← hX4]
  have OX4 : Hid (X3 < X4) := Lib.hid (by rw [hX4]; exact HX3_2.out.lt)
  have NX4_X1 : X4 ≠ X1 := by have OX1_ := OX1.out; have OX2_ := OX2.out; have OX3_ := OX3.out; have OX4_ := OX4.out; omega
  have NX1_X4 : X1 ≠ X4 := NX4_X1.symm
  have HX1_3 : Hid (Blk W3 X1 [.slice ao1 s1.l.length cap1, .int .i64 (en : Int), .int .i64 (s1.err : Int), .int .i64 (s1.at_ : Int)] 63) := Lib.hid (by rw [hW]; exact (((((HX1_2.out.alloc _).set 0 (.slice ao1 s1.l.length cap1)).set 1 (.int .i64 (en : Int))).set 2 (.int .i64 (s1.err : Int))).set 3 (.int .i64 (s1.at_ : Int))))
  have HX2_3 : Hid (Blk W3 X2 [.string ⟨#[]⟩, .int .i64 0, .string ⟨#[]⟩, .int .i64 0, .int .i64 0] 48) := Lib.hid (by rw [hW]; exact (((((HX2_2.out.alloc _).other _ _ NX2_X1).other _ _ NX2_X1).other _ _ NX2_X1).other _ _ NX2_X1))
  have HX3_3 : Hid (Blk W3 X3 [.slice none 0 0, .int .i64 0, .int .i64 0, .int .i64 0] 63) := Lib.hid (by rw [hW]; exact (((((HX3_2.out.alloc _).other _ _ NX3_X1).other _ _ NX3_X1).other _ _ NX3_X1).other _ _ NX3_X1))
  have HX4_3 : Hid (Blk W3 X4 [.int .i64 (t1.kind : Nat), .string ⟨t1.text.toArray⟩, .int .i64 (t1.n : Nat), .int .i64 (t1.at_ : Nat)] 44) := Lib.hid (by
    have h1 := Blk.new w1 [.int .i64 (t1.kind : Nat), .string ⟨t1.text.toArray⟩, .int .i64 (t1.n : Nat), .int .i64 (t1.at_ : Nat)] 44
    have h2 : w1.heap.size = X4 := by simp [hX4]
    rw [h2] at h1
    rw [hW]
    exact ((((h1.other _ _ NX4_X1).other _ _ NX4_X1).other _ _ NX4_X1).other _ _ NX4_X1))
  have C3 : Hid (Chg [] w W3) := Lib.hid (by rw [hW]; exact (((((C2.out.alloc _).setCell _ _ (.inr (by have OX1_ := OX1.out; have OX2_ := OX2.out; have OX3_ := OX3.out; have OX4_ := OX4.out; show w.heap.size ≤ X1; omega))).setCell _ _ (.inr (by have OX1_ := OX1.out; have OX2_ := OX2.out; have OX3_ := OX3.out; have OX4_ := OX4.out; show w.heap.size ≤ X1; omega))).setCell _ _ (.inr (by have OX1_ := OX1.out; have OX2_ := OX2.out; have OX3_ := OX3.out; have OX4_ := OX4.out; show w.heap.size ≤ X1; omega))).setCell _ _ (.inr (by have OX1_ := OX1.out; have OX2_ := OX2.out; have OX3_ := OX3.out; have OX4_ := OX4.out; show w.heap.size ≤ X1; omega))))
  clear hW hX4
  have cX4_0 := HX4_3.out.cell (i := 0) rfl
  have cX4_1 := HX4_3.out.cell (i := 1) rfl
  have cX4_2 := HX4_3.out.cell (i := 2) rfl
  have cX4_3 := HX4_3.out.cell (i := 3) rfl
  go_upto_region 3 with fail
  clear cX4_0 cX4_1 cX4_2 cX4_3
  obtain ⟨W4, hW⟩ : ∃ W, W = (W3.alloc (.cells #[.string ⟨t1.text.toArray⟩, .int .i64 0, .string ⟨#[]⟩, .int .i64 0, .int .i64 (t1.at_ : Nat)] 48)) := ⟨_, rfl⟩
  rw [← hW]
  obtain ⟨X5, hX5⟩ : ∃ T, T = W3.heap.size := ⟨_, rfl⟩
  try rw [← hX5]
  have OX5 : Hid (X4 < X5) := Lib.hid (by rw [hX5]; exact HX4_3.out.lt)
  have HX1_4 : Hid (Blk W4 X1 [.slice ao1 s1.l.length cap1, .int .i64 (en : Int), .int .i64 (s1.err : Int), .int .i64 (s1.at_ : Int)] 63) := Lib.hid (by rw [hW]; exact (HX1_3.out.alloc _))
  have HX2_4 : Hid (Blk W4 X2 [.string ⟨#[]⟩, .int .i64 0, .string ⟨#[]⟩, .int .i64 0, .int .i64 0] 48) := Lib.hid (by rw [hW]; exact (HX2_3.out.alloc _))
  have HX3_4 : Hid (Blk W4 X3 [.slice none 0 0, .int .i64 0, .int .i64 0, .int .i64 0] 63) := Lib.hid (by rw [hW]; exact (HX3_3.out.alloc _))
  have HX5_4 : Hid (Blk W4 X5 [.string ⟨t1.text.toArray⟩, .int .i64 0, .string ⟨#[]⟩, .int .i64 0, .int .i64 (t1.at_ : Nat)] 48) := Lib.hid (by
    have h1 := Blk.new W3 [.string ⟨t1.text.toArray⟩, .int .i64 0, .string ⟨#[]⟩, .int .i64 0, .int .i64 (t1.at_ : Nat)] 48
    have h2 : W3.heap.size = X5 := by simp [hX5]
    rw [h2] at h1
    rw [hW]
    exact h1)
  have C4 : Hid (Chg [] w W4) := Lib.hid (by rw [hW]; exact (C3.out.alloc _))
  clear hW hX5
  go_upto_region 4 with fail
  obtain ⟨W5, hW⟩ : ∃ W, W = (W4.alloc (.cells #[.string ⟨#[61]⟩, .string ⟨#[33, 61]⟩, .string ⟨#[60]⟩, .string ⟨#[60, 61]⟩, .string ⟨#[62]⟩, .string ⟨#[62, 61]⟩] 9)) := ⟨_, rfl⟩
  rw [← hW]
  obtain ⟨X6, hX6⟩ : ∃ T, T = W4.heap.size := ⟨_, rfl⟩
  try rw [← hX6]
  have OX6 : Hid (X5 < X6) := Lib.hid (by rw [hX6]; exact HX5_4.out.lt)
  have HX1_5 : Hid (Blk W5 X1 [.slice ao1 s1.l.length cap1, .int .i64 (en : Int), .int .i64 (s1.err : Int), .int .i64 (s1.at_ : Int)] 63) := Lib.hid (by rw [hW]; exact (HX1_4.out.alloc _))
  have HX2_5 : Hid (Blk W5 X2 [.string ⟨#[]⟩, .int .i64 0, .string ⟨#[]⟩, .int .i64 0, .int .i64 0] 48) := Lib.hid (by rw [hW]; exact (HX2_4.out.alloc _))
  have HX3_5 : Hid (Blk W5 X3 [.slice none 0 0, .int .i64 0, .int .i64 0, .int .i64 0] 63) := Lib.hid (by rw [hW]; exact (HX3_4.out.alloc _))
  have HX5_5 : Hid (Blk W5 X5 [.string ⟨t1.text.toArray⟩, .int .i64 0, .string ⟨#[]⟩, .int .i64 0, .int .i64 (t1.at_ : Nat)] 48) := Lib.hid (by rw [hW]; exact (HX5_4.out.alloc _))
  have HX6_5 : Hid (Blk W5 X6 [.string ⟨#[61]⟩, .string ⟨#[33, 61]⟩, .string ⟨#[60]⟩, .string ⟨#[60, 61]⟩, .string ⟨#[62]⟩, .string ⟨#[62, 61]⟩] 9) := Lib.hid (by
    have h1 := Blk.new W4 [.string ⟨#[61]⟩, .string ⟨#[33, 61]⟩, .string ⟨#[60]⟩, .string ⟨#[60, 61]⟩, .string ⟨#[62]⟩, .string ⟨#[62, 61]⟩] 9
    have h2 : W4.heap.size = X6 := by simp [hX6]
    rw [h2] at h1
    rw [hW]
    exact h1)
  have C5 : Hid (Chg [] w W5) := Lib.hid (by rw [hW]; exact (C4.out.alloc _))
  clear hW hX6
  go_wp2_with fail
  go_loopw [7] (fun i wr => ∃ (j op : Nat), i = .int .i64 (j : Int) ∧ j ≤ 6 ∧ Hid (op = RSt.lastIs s1 3 (Rl.opsL.take j) 1 0) ∧ Hid (Blk wr X5 [.string ⟨t1.text.toArray⟩, .int .i64 (op : Nat), .string ⟨#[]⟩, .int .i64 0, .int .i64 (t1.at_ : Nat)] 48) ∧ Hid (Chg [X5] W5 wr)) (fun i _ => 6 - (intOf i).toNat)
  case atStart => exact ⟨0, 0, rfl, Nat.zero_le _, Lib.hid rfl, HX5_5, Lib.hid (Chg.refl _ _)⟩
  case round =>
    obtain ⟨j, op, rfl, hj, HOP, HX5, HCL⟩ := hrel
    have NX1_X5 : X1 ≠ X5 := by have OX1_ := OX1.out; have OX2_ := OX2.out; have OX3_ := OX3.out; have OX4_ := OX4.out; have OX5_ := OX5.out; have OX6_ := OX6.out; omega
    have NX5_X1 : X5 ≠ X1 := NX1_X5.symm
    have NX2_X5 : X2 ≠ X5 := by have OX1_ := OX1.out; have OX2_ := OX2.out; have OX3_ := OX3.out; have OX4_ := OX4.out; have OX5_ := OX5.out; have OX6_ := OX6.out; omega
    have NX5_X2 : X5 ≠ X2 := NX2_X5.symm
    have NX3_X5 : X3 ≠ X5 := by have OX1_ := OX1.out; have OX2_ := OX2.out; have OX3_ := OX3.out; have OX4_ := OX4.out; have OX5_ := OX5.out; have OX6_ := OX6.out; omega
    have NX5_X3 : X5 ≠ X3 := NX3_X5.symm
    have NX4_X5 : X4 ≠ X5 := by have OX1_ := OX1.out; have OX2_ := OX2.out; have OX3_ := OX3.out; have OX4_ := OX4.out; have OX5_ := OX5.out; have OX6_ := OX6.out; omega
    have NX5_X4 : X5 ≠ X4 := NX4_X5.symm
    have NX6_X5 : X6 ≠ X5 := by have OX1_ := OX1.out; have OX2_ := OX2.out; have OX3_ := OX3.out; have OX4_ := OX4.out; have OX5_ := OX5.out; have OX6_ := OX6.out; omega
    have NX5_X6 : X5 ≠ X6 := NX6_X5.symm
    have HX1_6 : Hid (Blk wr X1 [.slice ao1 s1.l.length cap1, .int .i64 (en : Int), .int .i64 (s1.err : Int), .int .i64 (s1.at_ : Int)] 63) := Lib.hid (HCL.out.blk HX1_5.out (by simp [NX1_X5]))
    have HX2_6 : Hid (Blk wr X2 [.string ⟨#[]⟩, .int .i64 0, .string ⟨#[]⟩, .int .i64 0, .int .i64 0] 48) := Lib.hid (HCL.out.blk HX2_5.out (by simp [NX2_X5]))
    have HX3_6 : Hid (Blk wr X3 [.slice none 0 0, .int .i64 0, .int .i64 0, .int .i64 0] 63) := Lib.hid (HCL.out.blk HX3_5.out (by simp [NX3_X5]))
    have HX6_6 : Hid (Blk wr X6 [.string ⟨#[61]⟩, .string ⟨#[33, 61]⟩, .string ⟨#[60]⟩, .string ⟨#[60, 61]⟩, .string ⟨#[62]⟩, .string ⟨#[62, 61]⟩] 9) := Lib.hid (HCL.out.blk HX6_5.out (by simp [NX6_X5]))
    have C6 : Hid (Chg [] w wr) := Lib.hid (C5.out.trans HCL.out (fun k hk => .inr (by have OX1_ := OX1.out; have OX2_ := OX2.out; have OX3_ := OX3.out; have OX4_ := OX4.out; have OX5_ := OX5.out; have OX6_ := OX6.out; simp only [List.mem_cons, List.not_mem_nil, or_false] at hk; omega)))
    by_cases hlt : j < 6
    · skip
      obtain ⟨x, hx⟩ : ∃ x, Rl.opsL[j]? = some x := ⟨Rl.opsL[j]'(by show j < 6; omega), List.getElem?_eq_getElem _⟩
      have hxc : wr.cell? ⟨X6, j, none⟩ = some (.string ⟨x.toArray⟩) := HX6_6.out.cell (i := j) (by
        show (Rl.opsL.map (fun x => Value.string ⟨x.toArray⟩))[j]? = _
        rw [List.getElem?_map, hx]
        rfl)
      have HXC := Lib.hid hxc
      have HXX := Lib.hid hx
      clear hxc hx
      have q0 : (0 : Int) ≤ (j : Int) := by omega
      have q1 : (j : Int) < 6 := by omega
      have qj : ((j : Int)).toNat = j := by omega
      obtain ⟨j1, hj1⟩ : ∃ j1, j1 = j + 1 := ⟨_, rfl⟩
      have HJ1 : Hid (((j : Int) + 1) = (j1 : Int)) := Lib.hid (by omega)
      go_upto_region 7 with fail
      refine wp_region_held_drew (S := fun W' => Chg [] wr W') (by kernel_rfl) (Chg.refl _ _).drew (fun hHeld => ?_)
      refine wpAnyH_take (i := 0) (v := ?vu0) rfl (by kernel_rfl) (by kernel_rfl) (by kernel_rfl) (fun _ _ _ h => h) (Or.inl ⟨by kernel_rfl, ?hyu0⟩) (by assumption) ?rsu0
      case hyu0 => (intro w9 hSw; have e0 := cell_quiet hSw (HX1_6.out.cell (i := 0) rfl) (by simp); have e1 := cell_quiet hSw (HX1_6.out.cell (i := 1) rfl) (by simp); have e2 := cell_quiet hSw (HX1_6.out.cell (i := 2) rfl) (by simp); have e3 := cell_quiet hSw (HX1_6.out.cell (i := 3) rfl) (by simp); go_simp; try with_reducible rfl)
      try simp only [Act.put, List.setIfInBounds_toArray, List.set_cons_zero, List.set_cons_succ, List.getElem_toArray, List.getElem_cons_succ, List.getElem_cons_zero]
      refine wpAnyH_take (i := 1) (v := ?vu1) rfl (by kernel_rfl) (by kernel_rfl) (by kernel_rfl) (fun _ _ _ h => h) (Or.inl ⟨by kernel_rfl, ?hyu1⟩) (by assumption) ?rsu1
      case hyu1 => (intro w9 hSw; skip; go_simp; try with_reducible rfl)
      try simp only [Act.put, List.setIfInBounds_toArray, List.set_cons_zero, List.set_cons_succ, List.getElem_toArray, List.getElem_cons_succ, List.getElem_cons_zero]
      refine wpAnyH_take (i := 2) (v := ?vu2) rfl (by kernel_rfl) (by kernel_rfl) (by kernel_rfl) (fun _ _ _ h => h) (Or.inl ⟨by kernel_rfl, ?hyu2⟩) (by assumption) ?rsu2
      case hyu2 => (intro w9 hSw; skip; go_simp; try with_reducible rfl)
      try simp only [Act.put, List.setIfInBounds_toArray, List.set_cons_zero, List.set_cons_succ, List.getElem_toArray, List.getElem_cons_succ, List.getElem_cons_zero]
      refine wpAnyH_take (i := 3) (v := ?vu3) rfl (by kernel_rfl) (by kernel_rfl) (by kernel_rfl) (fun _ _ _ h => h) (Or.inl ⟨by kernel_rfl, ?hyu3⟩) (by assumption) ?rsu3
      case hyu3 => (intro w9 hSw; skip; go_simp; try with_reducible rfl)
      try simp only [Act.put, List.setIfInBounds_toArray, List.set_cons_zero, List.set_cons_succ, List.getElem_toArray, List.getElem_cons_succ, List.getElem_cons_zero]
      refine wpAnyH_take (i := 4) (v := ?vu4) rfl (by kernel_rfl) (by kernel_rfl) (by kernel_rfl) (fun _ _ _ h => h) (Or.inl ⟨by kernel_rfl, ?hyu4⟩) (by assumption) ?rsu4
      case hyu4 => (intro w9 hSw; have e := cell_quiet hSw HXC.out (by simp); go_simp; try with_reducible rfl)
      try simp only [Act.put, List.setIfInBounds_toArray, List.set_cons_zero, List.set_cons_succ, List.getElem_toArray, List.getElem_cons_succ, List.getElem_cons_zero]
      refine wpAnyH_ready (rs := [5]) (by kernel_rfl) (by simp) (AllReadyH.cons rfl (fun K hK => ?_) AllReadyH.nil)
      go_simp
      refine is_r (Lib.hid (HS1.out.to HT.out (C6.out.drew))) 3 x (fun b w9 HB9 D9 => ?_)
      refine hK.out _ _ (hHeld.trans D9.out (by simp)) (fun hHeld => ?_)
      clear hK K
      try simp only [Act.put, List.setIfInBounds_toArray, List.set_cons_zero, List.set_cons_succ, List.getElem_toArray, List.getElem_cons_succ, List.getElem_cons_zero]
      refine wpAnyH_done (by kernel_rfl) ?_ _
      try simp only [Act.put, List.setIfInBounds_toArray, List.set_cons_zero, List.set_cons_succ, List.getElem_toArray, List.getElem_cons_succ, List.getElem_cons_zero]
      have HHu := Lib.hid hHeld
      clear hHeld
      have HX5_7 : Hid (Blk w9 X5 [.string ⟨t1.text.toArray⟩, .int .i64 (op : Nat), .string ⟨#[]⟩, .int .i64 0, .int .i64 (t1.at_ : Nat)] 48) := Lib.hid (HHu.out.blk HX5.out (by simp))
      have HNX : Hid (RSt.lastIs s1 3 (Rl.opsL.take j1) 1 0 = if b = true then j1 else op) := Lib.hid (by
        rw [hj1, take_snoc HXX.out, lastIs_snoc, HB9.out, ← HOP.out, List.length_take]
        have : 1 + min j Rl.opsL.length = j + 1 := by show 1 + min j 6 = j + 1; omega
        rw [this])
      have HCL9 : Hid (Chg [X5] W5 w9) := Lib.hid (HCL.out.trans HHu.out (by simp))
      cases b with
      | true =>
        have cX5_0 := HX5_7.out.cell (i := 0) rfl
        have cX5_1 := HX5_7.out.cell (i := 1) rfl
        have cX5_2 := HX5_7.out.cell (i := 2) rfl
        have cX5_3 := HX5_7.out.cell (i := 3) rfl
        have cX5_4 := HX5_7.out.cell (i := 4) rfl
        have cX5_f0 := HX5_7.out.free 0
        have cX5_f1 := HX5_7.out.free 1
        have cX5_f2 := HX5_7.out.free 2
        have cX5_f3 := HX5_7.out.free 3
        have cX5_f4 := HX5_7.out.free 4
        go_wp2_with fail
        clear cX5_0 cX5_1 cX5_2 cX5_3 cX5_4 cX5_f0 cX5_f1 cX5_f2 cX5_f3 cX5_f4
        rw [HJ1.out]
        refine ⟨?_, by simp [intOf]; omega⟩
        have HX9 : Hid (Blk (w9.setCell ⟨X5, 1, none⟩ (.int .i64 (j1 : Nat))) X5 [.string ⟨t1.text.toArray⟩, .int .i64 (j1 : Nat), .string ⟨#[]⟩, .int .i64 0, .int .i64 (t1.at_ : Nat)] 48) := Lib.hid (HX5_7.out.set 1 _)
        have HC9 : Hid (Chg [X5] W5 (w9.setCell ⟨X5, 1, none⟩ (.int .i64 (j1 : Nat)))) := Lib.hid (HCL9.out.setCell _ _ (.inl (by simp)))
        have HNY : Hid (j1 = RSt.lastIs s1 3 (Rl.opsL.take j1) 1 0) := Lib.hid (by rw [HNX.out]; rfl)
        first | exact ⟨j1, j1, rfl, by omega, HNY, HX9, HC9⟩ | ((repeat apply Exists.intro); exact ⟨⟨j1, j1, rfl, by omega, HNY, HX9, HC9⟩, rfl⟩)
      | false =>
        go_wp2_with fail
        rw [HJ1.out]
        refine ⟨?_, by simp [intOf]; omega⟩
        have HNY : Hid (op = RSt.lastIs s1 3 (Rl.opsL.take j1) 1 0) := Lib.hid (by rw [HNX.out]; rfl)
        first | exact ⟨j1, op, rfl, by omega, HNY, HX5_7, HCL9⟩ | ((repeat apply Exists.intro); exact ⟨⟨j1, op, rfl, by omega, HNY, HX5_7, HCL9⟩, rfl⟩)
    · obtain rfl : j = 6 := by omega
      have HOP6 : Hid (RSt.lastIs s1 3 Rl.opsL 1 0 = op) := Lib.hid HOP.out.symm
      clear hlt hj
      have cX5_0 := HX5.out.cell (i := 0) rfl
      have cX5_1 := HX5.out.cell (i := 1) rfl
      have cX5_2 := HX5.out.cell (i := 2) rfl
      have cX5_3 := HX5.out.cell (i := 3) rfl
      have cX5_4 := HX5.out.cell (i := 4) rfl
      go_upto_if 41 with fail
      clear cX5_0 cX5_1 cX5_2 cX5_3 cX5_4
      by_cases h0 : op = 0
      · have q2 : ((op : Int) == 0) = true := by rw [h0]; rfl
        have HOP0 := Lib.hid h0
        clear h0
        go_upto_region 10 with fail
        have NX2_X3 : X2 ≠ X3 := by have OX1_ := OX1.out; have OX2_ := OX2.out; have OX3_ := OX3.out; have OX4_ := OX4.out; have OX5_ := OX5.out; have OX6_ := OX6.out; omega
        have NX3_X2 : X3 ≠ X2 := NX2_X3.symm
        have NX4_X2 : X4 ≠ X2 := by have OX1_ := OX1.out; have OX2_ := OX2.out; have OX3_ := OX3.out; have OX4_ := OX4.out; have OX5_ := OX5.out; have OX6_ := OX6.out; omega
        have NX2_X4 : X2 ≠ X4 := NX4_X2.symm
        have NX4_X3 : X4 ≠ X3 := by have OX1_ := OX1.out; have OX2_ := OX2.out; have OX3_ := OX3.out; have OX4_ := OX4.out; have OX5_ := OX5.out; have OX6_ := OX6.out; omega
        have NX3_X4 : X3 ≠ X4 := NX4_X3.symm
        have NX6_X2 : X6 ≠ X2 := by have OX1_ := OX1.out; have OX2_ := OX2.out; have OX3_ := OX3.out; have OX4_ := OX4.out; have OX5_ := OX5.out; have OX6_ := OX6.out; omega
        have NX2_X6 : X2 ≠ X6 := NX6_X2.symm
        have NX6_X3 : X6 ≠ X3 := by have OX1_ := OX1.out; have OX2_ := OX2.out; have OX3_ := OX3.out; have OX4_ := OX4.out; have OX5_ := OX5.out; have OX6_ := OX6.out; omega
        have NX3_X6 : X3 ≠ X6 := NX6_X3.symm
        have MaX5_0 : X5 ∉ [X2, X3] := by simp [NX5_X2, NX5_X3]
        have MaX1_1 : X1 ∉ [X2, X3] := by simp [NX1_X2, NX1_X3]
        refine wp_region_held_drew (S := fun W' => Chg [X2, X3] wr W') (by kernel_rfl) (Chg.refl _ _).drew (fun hHeld => ?_)
        refine wpAnyH_take (i := 0) (v := ?va0) rfl (by kernel_rfl) (by kernel_rfl) (by kernel_rfl) (fun _ _ _ h => h) (Or.inl ⟨by kernel_rfl, ?hya0⟩) (by assumption) ?rsa0
        case hya0 => (intro w9 hSw; have e0 := cell_quiet hSw (HX5.out.cell (i := 0) rfl) MaX5_0; have e1 := cell_quiet hSw (HX5.out.cell (i := 1) rfl) MaX5_0; have e2 := cell_quiet hSw (HX5.out.cell (i := 2) rfl) MaX5_0; have e3 := cell_quiet hSw (HX5.out.cell (i := 3) rfl) MaX5_0; have e4 := cell_quiet hSw (HX5.out.cell (i := 4) rfl) MaX5_0; go_simp; try with_reducible rfl)
        try simp only [Act.put, List.setIfInBounds_toArray, List.set_cons_zero, List.set_cons_succ, List.getElem_toArray, List.getElem_cons_succ, List.getElem_cons_zero]
        refine wpAnyH_take (i := 1) (v := ?va1) rfl (by kernel_rfl) (by kernel_rfl) (by kernel_rfl) (fun _ _ _ h => h) (Or.inl ⟨by kernel_rfl, ?hya1⟩) (by assumption) ?rsa1
        case hya1 => (intro w9 hSw; have e0 := cell_quiet hSw (HX1_6.out.cell (i := 0) rfl) MaX1_1; have e1 := cell_quiet hSw (HX1_6.out.cell (i := 1) rfl) MaX1_1; have e2 := cell_quiet hSw (HX1_6.out.cell (i := 2) rfl) MaX1_1; have e3 := cell_quiet hSw (HX1_6.out.cell (i := 3) rfl) MaX1_1; go_simp; try with_reducible rfl)
        try simp only [Act.put, List.setIfInBounds_toArray, List.set_cons_zero, List.set_cons_succ, List.getElem_toArray, List.getElem_cons_succ, List.getElem_cons_zero]
        obtain ⟨Za0, hZ⟩ : ∃ Z, Z = wr.drew := ⟨_, rfl⟩
        rw [← hZ] at hHeld ⊢
        have QaX2_0 : Hid (Blk Za0 X2 [.string ⟨#[]⟩, .int .i64 0, .string ⟨#[]⟩, .int .i64 0, .int .i64 0] 48) := Lib.hid (by rw [hZ]; exact HX2_6.out.drew)
        have QaX3_0 : Hid (Blk Za0 X3 [.slice none 0 0, .int .i64 0, .int .i64 0, .int .i64 0] 63) := Lib.hid (by rw [hZ]; exact HX3_6.out.drew)
        have CZ : Hid (Chg [] w Za0) := Lib.hid (by rw [hZ]; exact (C6.out).drew)
        clear hZ
        refine wpAnyH_ready (rs := [2]) (by kernel_rfl) (by simp) (AllReadyH.cons rfl (fun K hK => ?_) AllReadyH.nil)
        go_simp
        refine fail_r (Lib.hid (HS1.out.to HT.out CZ.out)) 4 (fun s9 w9 HE9 HS9 D9 => ?_)
        refine hK.out _ _ (hHeld.trans D9.out (by simp)) (fun hHeld => ?_)
        clear hK K
        try simp only [Act.put, List.setIfInBounds_toArray, List.set_cons_zero, List.set_cons_succ, List.getElem_toArray, List.getElem_cons_succ, List.getElem_cons_zero]
        have QaX2_m : Hid (Blk w9 X2 [.string ⟨#[]⟩, .int .i64 0, .string ⟨#[]⟩, .int .i64 0, .int .i64 0] 48) := Lib.hid (D9.out.blk QaX2_0.out (by simp))
        have QaX3_m : Hid (Blk w9 X3 [.slice none 0 0, .int .i64 0, .int .i64 0, .int .i64 0] 63) := Lib.hid (D9.out.blk QaX3_0.out (by simp))
        refine wpAnyH_ready (rs := [3]) (by kernel_rfl) (by simp) (AllReadyH.cons rfl (fun K hK => ?_) AllReadyH.nil)
        have x0 := QaX2_m.out.cell (i := 0) rfl
        have xf0 := QaX2_m.out.free 0
        have x1 := QaX2_m.out.cell (i := 1) rfl
        have xf1 := QaX2_m.out.free 1
        have x2 := QaX2_m.out.cell (i := 2) rfl
        have xf2 := QaX2_m.out.free 2
        have x3 := QaX2_m.out.cell (i := 3) rfl
        have xf3 := QaX2_m.out.free 3
        have x4 := QaX2_m.out.cell (i := 4) rfl
        have xf4 := QaX2_m.out.free 4
        go_simp
        refine hK.out _ _ (((((hHeld.setCell _ _ (.inl (by simp))).setCell _ _ (.inl (by simp))).setCell _ _ (.inl (by simp))).setCell _ _ (.inl (by simp))).setCell _ _ (.inl (by simp))) (fun hHeld => ?_)
        clear hK K x0 xf0 x1 xf1 x2 xf2 x3 xf3 x4 xf4
        try simp only [Act.put, List.setIfInBounds_toArray, List.set_cons_zero, List.set_cons_succ, List.getElem_toArray, List.getElem_cons_succ, List.getElem_cons_zero]
        obtain ⟨Za1, hZ⟩ : ∃ Z, Z = (((((w9.setCell ⟨X2, 0, none⟩ (.string ⟨t1.text.toArray⟩)).setCell ⟨X2, 1, none⟩ (.int .i64 (op : Nat))).setCell ⟨X2, 2, none⟩ (.string ⟨#[]⟩)).setCell ⟨X2, 3, none⟩ (.int .i64 0)).setCell ⟨X2, 4, none⟩ (.int .i64 (t1.at_ : Nat))) := ⟨_, rfl⟩
        rw [← hZ] at hHeld ⊢
        have QaX2_1 : Hid (Blk Za1 X2 [.string ⟨t1.text.toArray⟩, .int .i64 (op : Nat), .string ⟨#[]⟩, .int .i64 0, .int .i64 (t1.at_ : Nat)] 48) := Lib.hid (by rw [hZ]; exact (((((QaX2_m.out.set 0 (.string ⟨t1.text.toArray⟩)).set 1 (.int .i64 (op : Nat))).set 2 (.string ⟨#[]⟩)).set 3 (.int .i64 0)).set 4 (.int .i64 (t1.at_ : Nat))))
        have QaX3_1 : Hid (Blk Za1 X3 [.slice none 0 0, .int .i64 0, .int .i64 0, .int .i64 0] 63) := Lib.hid (by rw [hZ]; exact (((((QaX3_m.out.other _ _ NX3_X2).other _ _ NX3_X2).other _ _ NX3_X2).other _ _ NX3_X2).other _ _ NX3_X2))
        clear hZ
        refine wpAnyH_ready (rs := [4]) (by kernel_rfl) (by simp) (AllReadyH.cons rfl (fun K hK => ?_) AllReadyH.nil)
        have x0 := QaX3_1.out.cell (i := 0) rfl
        have xf0 := QaX3_1.out.free 0
        have x1 := QaX3_1.out.cell (i := 1) rfl
        have xf1 := QaX3_1.out.free 1
        have x2 := QaX3_1.out.cell (i := 2) rfl
        have xf2 := QaX3_1.out.free 2
        have x3 := QaX3_1.out.cell (i := 3) rfl
        have xf3 := QaX3_1.out.free 3
        go_simp
        refine hK.out _ _ ((((hHeld.setCell _ _ (.inl (by simp))).setCell _ _ (.inl (by simp))).setCell _ _ (.inl (by simp))).setCell _ _ (.inl (by simp))) (fun hHeld => ?_)
        clear hK K x0 xf0 x1 xf1 x2 xf2 x3 xf3
        try simp only [Act.put, List.setIfInBounds_toArray, List.set_cons_zero, List.set_cons_succ, List.getElem_toArray, List.getElem_cons_succ, List.getElem_cons_zero]
        obtain ⟨Za2, hZ⟩ : ∃ Z, Z = ((((Za1.setCell ⟨X3, 0, none⟩ (.slice ao1 s9.l.length cap1)).setCell ⟨X3, 1, none⟩ (.int .i64 (en : Int))).setCell ⟨X3, 2, none⟩ (.int .i64 (s9.err : Int))).setCell ⟨X3, 3, none⟩ (.int .i64 (s9.at_ : Int))) := ⟨_, rfl⟩
        rw [← hZ] at hHeld ⊢
        have QaX2_2 : Hid (Blk Za2 X2 [.string ⟨t1.text.toArray⟩, .int .i64 (op : Nat), .string ⟨#[]⟩, .int .i64 0, .int .i64 (t1.at_ : Nat)] 48) := Lib.hid (by rw [hZ]; exact ((((QaX2_1.out.other _ _ NX2_X3).other _ _ NX2_X3).other _ _ NX2_X3).other _ _ NX2_X3))
        have QaX3_2 : Hid (Blk Za2 X3 [.slice ao1 s9.l.length cap1, .int .i64 (en : Int), .int .i64 (s9.err : Int), .int .i64 (s9.at_ : Int)] 63) := Lib.hid (by rw [hZ]; exact ((((QaX3_1.out.set 0 (.slice ao1 s9.l.length cap1)).set 1 (.int .i64 (en : Int))).set 2 (.int .i64 (s9.err : Int))).set 3 (.int .i64 (s9.at_ : Int))))
        clear hZ
        refine wpAnyH_done (by kernel_rfl) ?_ _
        try simp only [Act.put, List.setIfInBounds_toArray, List.set_cons_zero, List.set_cons_succ, List.getElem_toArray, List.getElem_cons_succ, List.getElem_cons_zero]
        have HH := Lib.hid hHeld
        clear hHeld
        go_wp2_with fail
        (try simp only [Exit.inBlock, Exit.then])
        refine bodyPost_ret (results_cell_row2 rfl _ _ X2 X3 48 63 #[.string ⟨t1.text.toArray⟩, .int .i64 (op : Nat), .string ⟨#[]⟩, .int .i64 0, .int .i64 (t1.at_ : Nat)] #[.slice ao1 s9.l.length cap1, .int .i64 (en : Int), .int .i64 (s9.err : Int), .int .i64 (s9.at_ : Int)] (0, 0) (0, 0) _ _ rfl QaX2_2.out rfl QaX3_2.out Tryd.underlying48 rfl (by kernel_rfl) Tryd.underlying63 rfl (by kernel_rfl)) rfl ?_
        have CF : Hid (Chg [] w Za2) := Lib.hid (C6.out.trans HH.out (fun k hk => .inr (by have OX1_ := OX1.out; have OX2_ := OX2.out; have OX3_ := OX3.out; have OX4_ := OX4.out; have OX5_ := OX5.out; have OX6_ := OX6.out; simp only [List.mem_cons, List.not_mem_nil, or_false] at hk; omega)))
        have hs : s.test en = (⟨t1.text, op, [], 0, t1.at_⟩, s9) := by
          unfold RSt.test
          rw [HE1.out]
          simp only
          rw [HOP6.out, if_pos HOP0.out, HE9.out, HOP0.out]
        first | exact ⟨(⟨t1.text, op, [], 0, t1.at_⟩ : Rl.Tst), s9, ao1, cap1, Lib.hid hs, Lib.hid (HS1.out.trans HS9.out), CF, rfl⟩ | exact ⟨(⟨t1.text, op, [], 0, t1.at_⟩ : Rl.Tst), s9, Lib.hid hs, ao1, cap1, Lib.hid (HS1.out.trans HS9.out), CF, rfl⟩
      · have q2 : ((op : Int) == 0) = false := beq_eq_false_iff_ne.2 (by omega)
        obtain ⟨her, tk, rr, hl⟩ := lastIs_cons (s := s1) (k := 3) (l := Rl.opsL) (i := 1) (o := 0) (by rw [HOP6.out]; exact h0)
        have HTK := Lib.hid (HS1.out.to HT.out C6.out)
        have HT1 := Lib.hid (HS1.out _ HT.out)
        obtain ⟨s2, hs2⟩ : ∃ s2, s2 = s1.tl := ⟨_, rfl⟩
        have HS2E := Lib.hid hs2
        have hl2 : s2.l = rr := by rw [hs2]; unfold RSt.tl; rw [hl]; rfl
        obtain ⟨rn, hrn⟩ : ∃ n, rr.length = n := ⟨_, rfl⟩
        have hn1 : s1.l.length = rn + 1 := by rw [hl, ← hrn]; rfl
        have hn2 : s2.l.length = rn := by rw [hl2, hrn]
        have he2 : s2.err = s1.err ∧ s2.at_ = s1.at_ := by rw [hs2]; exact ⟨rfl, rfl⟩
        have hsuf : ∀ g off, ao1 = some ⟨g, off, none⟩ → rn + 1 ≤ cap1 → ∀ off' cap', (rr ≠ [] → off' = off + 4) → rn ≤ cap' → Suf ao1 cap1 s1.l (some ⟨g, off', none⟩) cap' s2.l := by
          intro g off e1 _ off' cap' h1 h2 v hv
          rw [hl2]
          rw [hl, e1] at hv
          exact TokS.tl hv h1 (by rw [hrn]; exact h2)
        have hhd := HT1.out
        rw [hl] at hhd
        obtain ⟨g, off, hao, -, hcap, -⟩ := hhd.hd
        rw [hrn] at hcap
        have HSUF := Lib.hid (hsuf g off hao hcap)
        have HCAP := Lib.hid hcap
        have HRN := Lib.hid hrn
        have HN2 := Lib.hid hn2
        have HE2 := Lib.hid he2
        have HN1 := Lib.hid hn1
        clear hsuf hcap hs2 hl2 hn2 he2 hhd hl hrn h0
        have z0 := HX1_6.out.cell (i := 0) rfl
        have z1 := HX1_6.out.cell (i := 1) rfl
        have z2 := HX1_6.out.cell (i := 2) rfl
        have z3 := HX1_6.out.cell (i := 3) rfl
        have zf0 := HX1_6.out.free 0
        have zf1 := HX1_6.out.free 1
        have zf2 := HX1_6.out.free 2
        have zf3 := HX1_6.out.free 3
        rw [hao, hn1] at z0
        go_upto_region 11 with fail
        go_cut [47] from 45 (fun v wc => ∃ off' cap', v = .slice (some ⟨g, off', none⟩) s2.l.length cap' ∧ (rr ≠ [] → off' = off + 4) ∧ rn ≤ cap' ∧ wc = wr.setCell ⟨X1, 0, none⟩ (.slice (some ⟨g, off', none⟩) s2.l.length cap'))
        case first =>
          have hcap := HCAP.out
          by_cases hc1 : cap1 = 1
          · subst hc1
            obtain rfl : rn = 0 := by omega
            go_wp2_with fail
            go_meet
            case rel => exact ⟨off, 0, by rw [HN2.out], fun h => absurd (List.eq_nil_of_length_eq_zero HRN.out) h, Nat.le_refl _, by rw [HN2.out]⟩
          · obtain ⟨c, rfl⟩ : ∃ c, cap1 = c + 2 := ⟨cap1 - 2, by omega⟩
            go_wp2_with fail
            go_meet
            case rel => exact ⟨off + 4, c + 1, by rw [HN2.out], fun _ => rfl, by omega, by rw [HN2.out]⟩
        case rest =>
          obtain ⟨off', cap2, rfl, hof, hcp, hwc⟩ := hcut
          have HS2 := Lib.hid (HSUF.out off' cap2 hof hcp)
          clear hof hcp z0 z1 z2 z3 zf0 zf1 zf2 zf3
          subst hwc
          obtain ⟨ao2, hao2⟩ : ∃ a : Option Addr, a = some ⟨g, off', none⟩ := ⟨_, rfl⟩
          rw [← hao2] at HS2 ⊢
          clear hao2
          have NX6_X1 : X6 ≠ X1 := by have OX1_ := OX1.out; have OX2_ := OX2.out; have OX3_ := OX3.out; have OX4_ := OX4.out; have OX5_ := OX5.out; have OX6_ := OX6.out; omega
          have NX1_X6 : X1 ≠ X6 := NX6_X1.symm
          obtain ⟨W7, hW⟩ : ∃ W, W = (wr.setCell ⟨X1, 0, none⟩ (.slice ao2 s2.l.length cap2)) := ⟨_, rfl⟩
          rw [← hW]
          have HX1_7 : Hid (Blk W7 X1 [.slice ao2 s2.l.length cap2, .int .i64 (en : Int), .int .i64 (s1.err : Int), .int .i64 (s1.at_ : Int)] 63) := Lib.hid (by rw [hW]; exact (HX1_6.out.set 0 (.slice ao2 s2.l.length cap2)))
          have HX2_7 : Hid (Blk W7 X2 [.string ⟨#[]⟩, .int .i64 0, .string ⟨#[]⟩, .int .i64 0, .int .i64 0] 48) := Lib.hid (by rw [hW]; exact (HX2_6.out.other _ _ NX2_X1))
          have HX3_7 : Hid (Blk W7 X3 [.slice none 0 0, .int .i64 0, .int .i64 0, .int .i64 0] 63) := Lib.hid (by rw [hW]; exact (HX3_6.out.other _ _ NX3_X1))
          have HX5_7 : Hid (Blk W7 X5 [.string ⟨t1.text.toArray⟩, .int .i64 (op : Nat), .string ⟨#[]⟩, .int .i64 0, .int .i64 (t1.at_ : Nat)] 48) := Lib.hid (by rw [hW]; exact (HX5.out.other _ _ NX5_X1))
          have HX6_7 : Hid (Blk W7 X6 [.string ⟨#[61]⟩, .string ⟨#[33, 61]⟩, .string ⟨#[60]⟩, .string ⟨#[60, 61]⟩, .string ⟨#[62]⟩, .string ⟨#[62, 61]⟩] 9) := Lib.hid (by rw [hW]; exact (HX6_6.out.other _ _ NX6_X1))
          have C7 : Hid (Chg [] w W7) := Lib.hid (by rw [hW]; exact (C6.out.setCell _ _ (.inr (by have OX1_ := OX1.out; have OX2_ := OX2.out; have OX3_ := OX3.out; have OX4_ := OX4.out; have OX5_ := OX5.out; have OX6_ := OX6.out; show w.heap.size ≤ X1; omega))))
          clear hW
          have HX1s : Hid (Blk W7 X1 [.slice ao2 s2.l.length cap2, .int .i64 (en : Int), .int .i64 (s2.err : Int), .int .i64 (s2.at_ : Int)] 63) := Lib.hid (by have := HX1_7.out; rw [← HE2.out.1, ← HE2.out.2] at this; exact this)
          have cX1_0 := HX1s.out.cell (i := 0) rfl
          have cX1_1 := HX1s.out.cell (i := 1) rfl
          have cX1_2 := HX1s.out.cell (i := 2) rfl
          have cX1_3 := HX1s.out.cell (i := 3) rfl
          go_wp2_with fail
          clear cX1_0 cX1_1 cX1_2 cX1_3
          refine is_r (Lib.hid ((HS1.out.trans HS2.out).to HT.out C7.out)) 2 [] (fun b3 w3 HB3 D3 => ?_)
          have HX1_8 : Hid (Blk w3 X1 [.slice ao2 s2.l.length cap2, .int .i64 (en : Int), .int .i64 (s2.err : Int), .int .i64 (s2.at_ : Int)] 63) := Lib.hid (D3.out.blk HX1s.out (by simp))
          have HX2_8 : Hid (Blk w3 X2 [.string ⟨#[]⟩, .int .i64 0, .string ⟨#[]⟩, .int .i64 0, .int .i64 0] 48) := Lib.hid (D3.out.blk HX2_7.out (by simp))
          have HX3_8 : Hid (Blk w3 X3 [.slice none 0 0, .int .i64 0, .int .i64 0, .int .i64 0] 63) := Lib.hid (D3.out.blk HX3_7.out (by simp))
          have HX5_8 : Hid (Blk w3 X5 [.string ⟨t1.text.toArray⟩, .int .i64 (op : Nat), .string ⟨#[]⟩, .int .i64 0, .int .i64 (t1.at_ : Nat)] 48) := Lib.hid (D3.out.blk HX5_7.out (by simp))
          have HX6_8 : Hid (Blk w3 X6 [.string ⟨#[61]⟩, .string ⟨#[33, 61]⟩, .string ⟨#[60]⟩, .string ⟨#[60, 61]⟩, .string ⟨#[62]⟩, .string ⟨#[62, 61]⟩] 9) := Lib.hid (D3.out.blk HX6_7.out (by simp))
          have C8 : Hid (Chg [] w w3) := Lib.hid (C7.out.trans D3.out (by simp))
          have HBASE : Hid (∀ y, RSt.rhs en s2 = y → s.test en = (⟨t1.text, op, y.1.1, y.1.2, t1.at_⟩, y.2)) := Lib.hid (fun y hy => by
            unfold RSt.test
            rw [HE1.out]
            simp only
            rw [HOP6.out, if_neg (fun e => by rw [e] at q2; simp at q2), ← HS2E.out, hy])
          cases b3 with
          | true =>
            have cX1_0 := HX1_8.out.cell (i := 0) rfl
            have cX1_1 := HX1_8.out.cell (i := 1) rfl
            have cX1_2 := HX1_8.out.cell (i := 2) rfl
            have cX1_3 := HX1_8.out.cell (i := 3) rfl
            go_wp2_with fail
            clear cX1_0 cX1_1 cX1_2 cX1_3
            refine take_r (Lib.hid ((HS1.out.trans HS2.out).to HT.out C8.out)) 2 (fun t4 s4 ao4 cap4 w4 HE4 HS4 D4 => ?_)
            have HX2_9 : Hid (Blk w4 X2 [.string ⟨#[]⟩, .int .i64 0, .string ⟨#[]⟩, .int .i64 0, .int .i64 0] 48) := Lib.hid (D4.out.blk HX2_8.out (by simp))
            have HX3_9 : Hid (Blk w4 X3 [.slice none 0 0, .int .i64 0, .int .i64 0, .int .i64 0] 63) := Lib.hid (D4.out.blk HX3_8.out (by simp))
            have HX5_9 : Hid (Blk w4 X5 [.string ⟨t1.text.toArray⟩, .int .i64 (op : Nat), .string ⟨#[]⟩, .int .i64 0, .int .i64 (t1.at_ : Nat)] 48) := Lib.hid (D4.out.blk HX5_8.out (by simp))
            have HX6_9 : Hid (Blk w4 X6 [.string ⟨#[61]⟩, .string ⟨#[33, 61]⟩, .string ⟨#[60]⟩, .string ⟨#[60, 61]⟩, .string ⟨#[62]⟩, .string ⟨#[62, 61]⟩] 9) := Lib.hid (D4.out.blk HX6_8.out (by simp))
            have C9 : Hid (Chg [] w w4) := Lib.hid (C8.out.trans D4.out (by simp))
            go_upto_region 14 with fail
            obtain ⟨W10, hW⟩ : ∃ W, W = ((w4.alloc (.cells #[.int .i64 (t4.kind : Nat), .string ⟨t4.text.toArray⟩, .int .i64 (t4.n : Nat), .int .i64 (t4.at_ : Nat)] 44)).alloc (.cells #[.slice ao4 s4.l.length cap4, .int .i64 (en : Int), .int .i64 (s4.err : Int), .int .i64 (s4.at_ : Int)] 63)) := ⟨_, rfl⟩
            rw [← hW]
            obtain ⟨X9, hX9⟩ : ∃ T, T = w4.heap.size + 1 := ⟨_, rfl⟩
            try rw [← hX9]
            obtain ⟨X8, hX8⟩ : ∃ T, T = w4.heap.size := ⟨_, rfl⟩
            try rw [← hX8]
            have OX8 : Hid (X6 < X8) := Lib.hid (by rw [hX8]; exact HX6_9.out.lt)
            have OX9 : Hid (X8 < X9) := Lib.hid (by rw [hX9, hX8]; omega)
            have HX2_10 : Hid (Blk W10 X2 [.string ⟨#[]⟩, .int .i64 0, .string ⟨#[]⟩, .int .i64 0, .int .i64 0] 48) := Lib.hid (by rw [hW]; exact ((HX2_9.out.alloc _).alloc _))
            have HX3_10 : Hid (Blk W10 X3 [.slice none 0 0, .int .i64 0, .int .i64 0, .int .i64 0] 63) := Lib.hid (by rw [hW]; exact ((HX3_9.out.alloc _).alloc _))
            have HX5_10 : Hid (Blk W10 X5 [.string ⟨t1.text.toArray⟩, .int .i64 (op : Nat), .string ⟨#[]⟩, .int .i64 0, .int .i64 (t1.at_ : Nat)] 48) := Lib.hid (by rw [hW]; exact ((HX5_9.out.alloc _).alloc _))
            have HX8_10 : Hid (Blk W10 X8 [.int .i64 (t4.kind : Nat), .string ⟨t4.text.toArray⟩, .int .i64 (t4.n : Nat), .int .i64 (t4.at_ : Nat)] 44) := Lib.hid (by
              have h1 := Blk.new w4 [.int .i64 (t4.kind : Nat), .string ⟨t4.text.toArray⟩, .int .i64 (t4.n : Nat), .int .i64 (t4.at_ : Nat)] 44
              have h2 : w4.heap.size = X8 := by simp [hX8]
              rw [h2] at h1
              rw [hW]
              exact (h1.alloc _))
            have HX9_10 : Hid (Blk W10 X9 [.slice ao4 s4.l.length cap4, .int .i64 (en : Int), .int .i64 (s4.err : Int), .int .i64 (s4.at_ : Int)] 63) := Lib.hid (by
              have h1 := Blk.new (w4.alloc (.cells #[.int .i64 (t4.kind : Nat), .string ⟨t4.text.toArray⟩, .int .i64 (t4.n : Nat), .int .i64 (t4.at_ : Nat)] 44)) [.slice ao4 s4.l.length cap4, .int .i64 (en : Int), .int .i64 (s4.err : Int), .int .i64 (s4.at_ : Int)] 63
              have h2 : (w4.alloc (.cells #[.int .i64 (t4.kind : Nat), .string ⟨t4.text.toArray⟩, .int .i64 (t4.n : Nat), .int .i64 (t4.at_ : Nat)] 44)).heap.size = X9 := by simp [hX9]
              rw [h2] at h1
              rw [hW]
              exact h1)
            have C10 : Hid (Chg [] w W10) := Lib.hid (by rw [hW]; exact ((C9.out.alloc _).alloc _))
            clear hW hX8 hX9
            have cX8_0 := HX8_10.out.cell (i := 0) rfl
            have cX8_1 := HX8_10.out.cell (i := 1) rfl
            have cX8_2 := HX8_10.out.cell (i := 2) rfl
            have cX8_3 := HX8_10.out.cell (i := 3) rfl
            have cX5_0 := HX5_10.out.cell (i := 0) rfl
            have cX5_1 := HX5_10.out.cell (i := 1) rfl
            have cX5_2 := HX5_10.out.cell (i := 2) rfl
            have cX5_3 := HX5_10.out.cell (i := 3) rfl
            have cX5_4 := HX5_10.out.cell (i := 4) rfl
            have cX5_f0 := HX5_10.out.free 0
            have cX5_f1 := HX5_10.out.free 1
            have cX5_f2 := HX5_10.out.free 2
            have cX5_f3 := HX5_10.out.free 3
            have cX5_f4 := HX5_10.out.free 4
            go_upto_region 15 with fail
            clear cX8_0 cX8_1 cX8_2 cX8_3 cX5_0 cX5_1 cX5_2 cX5_3 cX5_4 cX5_f0 cX5_f1 cX5_f2 cX5_f3 cX5_f4
            have NX8_X5 : X8 ≠ X5 := by have OX1_ := OX1.out; have OX2_ := OX2.out; have OX3_ := OX3.out; have OX4_ := OX4.out; have OX5_ := OX5.out; have OX6_ := OX6.out; have OX8_ := OX8.out; have OX9_ := OX9.out; omega
            have NX5_X8 : X5 ≠ X8 := NX8_X5.symm
            have NX9_X5 : X9 ≠ X5 := by have OX1_ := OX1.out; have OX2_ := OX2.out; have OX3_ := OX3.out; have OX4_ := OX4.out; have OX5_ := OX5.out; have OX6_ := OX6.out; have OX8_ := OX8.out; have OX9_ := OX9.out; omega
            have NX5_X9 : X5 ≠ X9 := NX9_X5.symm
            obtain ⟨W11, hW⟩ : ∃ W, W = (W10.setCell ⟨X5, 3, none⟩ (.int .i64 (t4.n : Nat))) := ⟨_, rfl⟩
            rw [← hW]
            have HX2_11 : Hid (Blk W11 X2 [.string ⟨#[]⟩, .int .i64 0, .string ⟨#[]⟩, .int .i64 0, .int .i64 0] 48) := Lib.hid (by rw [hW]; exact (HX2_10.out.other _ _ NX2_X5))
            have HX3_11 : Hid (Blk W11 X3 [.slice none 0 0, .int .i64 0, .int .i64 0, .int .i64 0] 63) := Lib.hid (by rw [hW]; exact (HX3_10.out.other _ _ NX3_X5))
            have HX5_11 : Hid (Blk W11 X5 [.string ⟨t1.text.toArray⟩, .int .i64 (op : Nat), .string ⟨#[]⟩, .int .i64 (t4.n : Nat), .int .i64 (t1.at_ : Nat)] 48) := Lib.hid (by rw [hW]; exact (HX5_10.out.set 3 (.int .i64 (t4.n : Nat))))
            have HX9_11 : Hid (Blk W11 X9 [.slice ao4 s4.l.length cap4, .int .i64 (en : Int), .int .i64 (s4.err : Int), .int .i64 (s4.at_ : Int)] 63) := Lib.hid (by rw [hW]; exact (HX9_10.out.other _ _ NX9_X5))
            have C11 : Hid (Chg [] w W11) := Lib.hid (by rw [hW]; exact (C10.out.setCell _ _ (.inr (by have OX1_ := OX1.out; have OX2_ := OX2.out; have OX3_ := OX3.out; have OX4_ := OX4.out; have OX5_ := OX5.out; have OX6_ := OX6.out; have OX8_ := OX8.out; have OX9_ := OX9.out; show w.heap.size ≤ X5; omega))))
            clear hW
            have NX2_X3 : X2 ≠ X3 := by have OX1_ := OX1.out; have OX2_ := OX2.out; have OX3_ := OX3.out; have OX4_ := OX4.out; have OX5_ := OX5.out; have OX6_ := OX6.out; have OX8_ := OX8.out; have OX9_ := OX9.out; omega
            have NX3_X2 : X3 ≠ X2 := NX2_X3.symm
            have NX4_X2 : X4 ≠ X2 := by have OX1_ := OX1.out; have OX2_ := OX2.out; have OX3_ := OX3.out; have OX4_ := OX4.out; have OX5_ := OX5.out; have OX6_ := OX6.out; have OX8_ := OX8.out; have OX9_ := OX9.out; omega
            have NX2_X4 : X2 ≠ X4 := NX4_X2.symm
            have NX4_X3 : X4 ≠ X3 := by have OX1_ := OX1.out; have OX2_ := OX2.out; have OX3_ := OX3.out; have OX4_ := OX4.out; have OX5_ := OX5.out; have OX6_ := OX6.out; have OX8_ := OX8.out; have OX9_ := OX9.out; omega
            have NX3_X4 : X3 ≠ X4 := NX4_X3.symm
            have NX6_X2 : X6 ≠ X2 := by have OX1_ := OX1.out; have OX2_ := OX2.out; have OX3_ := OX3.out; have OX4_ := OX4.out; have OX5_ := OX5.out; have OX6_ := OX6.out; have OX8_ := OX8.out; have OX9_ := OX9.out; omega
            have NX2_X6 : X2 ≠ X6 := NX6_X2.symm
            have NX6_X3 : X6 ≠ X3 := by have OX1_ := OX1.out; have OX2_ := OX2.out; have OX3_ := OX3.out; have OX4_ := OX4.out; have OX5_ := OX5.out; have OX6_ := OX6.out; have OX8_ := OX8.out; have OX9_ := OX9.out; omega
            have NX3_X6 : X3 ≠ X6 := NX6_X3.symm
            have NX8_X2 : X8 ≠ X2 := by have OX1_ := OX1.out; have OX2_ := OX2.out; have OX3_ := OX3.out; have OX4_ := OX4.out; have OX5_ := OX5.out; have OX6_ := OX6.out; have OX8_ := OX8.out; have OX9_ := OX9.out; omega
            have NX2_X8 : X2 ≠ X8 := NX8_X2.symm
            have NX8_X3 : X8 ≠ X3 := by have OX1_ := OX1.out; have OX2_ := OX2.out; have OX3_ := OX3.out; have OX4_ := OX4.out; have OX5_ := OX5.out; have OX6_ := OX6.out; have OX8_ := OX8.out; have OX9_ := OX9.out; omega
            have NX3_X8 : X3 ≠ X8 := NX8_X3.symm
            have NX9_X2 : X9 ≠ X2 := by have OX1_ := OX1.out; have OX2_ := OX2.out; have OX3_ := OX3.out; have OX4_ := OX4.out; have OX5_ := OX5.out; have OX6_ := OX6.out; have OX8_ := OX8.out; have OX9_ := OX9.out; omega
            have NX2_X9 : X2 ≠ X9 := NX9_X2.symm
            have NX9_X3 : X9 ≠ X3 := by have OX1_ := OX1.out; have OX2_ := OX2.out; have OX3_ := OX3.out; have OX4_ := OX4.out; have OX5_ := OX5.out; have OX6_ := OX6.out; have OX8_ := OX8.out; have OX9_ := OX9.out; omega
            have NX3_X9 : X3 ≠ X9 := NX9_X3.symm
            have MbX5_0 : X5 ∉ [X2, X3] := by simp [NX5_X2, NX5_X3]
            have MbX9_1 : X9 ∉ [X2, X3] := by simp [NX9_X2, NX9_X3]
            refine wp_region_held_drew (S := fun W' => Chg [X2, X3] W11 W') (by kernel_rfl) (Chg.refl _ _).drew (fun hHeld => ?_)
            refine wpAnyH_take (i := 0) (v := ?vb0) rfl (by kernel_rfl) (by kernel_rfl) (by kernel_rfl) (fun _ _ _ h => h) (Or.inl ⟨by kernel_rfl, ?hyb0⟩) (by assumption) ?rsb0
            case hyb0 => (intro w9 hSw; have e0 := cell_quiet hSw (HX5_11.out.cell (i := 0) rfl) MbX5_0; have e1 := cell_quiet hSw (HX5_11.out.cell (i := 1) rfl) MbX5_0; have e2 := cell_quiet hSw (HX5_11.out.cell (i := 2) rfl) MbX5_0; have e3 := cell_quiet hSw (HX5_11.out.cell (i := 3) rfl) MbX5_0; have e4 := cell_quiet hSw (HX5_11.out.cell (i := 4) rfl) MbX5_0; go_simp; try with_reducible rfl)
            try simp only [Act.put, List.setIfInBounds_toArray, List.set_cons_zero, List.set_cons_succ, List.getElem_toArray, List.getElem_cons_succ, List.getElem_cons_zero]
            refine wpAnyH_take (i := 1) (v := ?vb1) rfl (by kernel_rfl) (by kernel_rfl) (by kernel_rfl) (fun _ _ _ h => h) (Or.inl ⟨by kernel_rfl, ?hyb1⟩) (by assumption) ?rsb1
            case hyb1 => (intro w9 hSw; have e0 := cell_quiet hSw (HX9_11.out.cell (i := 0) rfl) MbX9_1; have e1 := cell_quiet hSw (HX9_11.out.cell (i := 1) rfl) MbX9_1; have e2 := cell_quiet hSw (HX9_11.out.cell (i := 2) rfl) MbX9_1; have e3 := cell_quiet hSw (HX9_11.out.cell (i := 3) rfl) MbX9_1; go_simp; try with_reducible rfl)
            try simp only [Act.put, List.setIfInBounds_toArray, List.set_cons_zero, List.set_cons_succ, List.getElem_toArray, List.getElem_cons_succ, List.getElem_cons_zero]
            obtain ⟨Zb0, hZ⟩ : ∃ Z, Z = W11.drew := ⟨_, rfl⟩
            rw [← hZ] at hHeld ⊢
            have QbX2_0 : Hid (Blk Zb0 X2 [.string ⟨#[]⟩, .int .i64 0, .string ⟨#[]⟩, .int .i64 0, .int .i64 0] 48) := Lib.hid (by rw [hZ]; exact HX2_11.out.drew)
            have QbX3_0 : Hid (Blk Zb0 X3 [.slice none 0 0, .int .i64 0, .int .i64 0, .int .i64 0] 63) := Lib.hid (by rw [hZ]; exact HX3_11.out.drew)
            clear hZ
            refine wpAnyH_ready (rs := [2]) (by kernel_rfl) (by simp) (AllReadyH.cons rfl (fun K hK => ?_) AllReadyH.nil)
            have x0 := QbX2_0.out.cell (i := 0) rfl
            have xf0 := QbX2_0.out.free 0
            have x1 := QbX2_0.out.cell (i := 1) rfl
            have xf1 := QbX2_0.out.free 1
            have x2 := QbX2_0.out.cell (i := 2) rfl
            have xf2 := QbX2_0.out.free 2
            have x3 := QbX2_0.out.cell (i := 3) rfl
            have xf3 := QbX2_0.out.free 3
            have x4 := QbX2_0.out.cell (i := 4) rfl
            have xf4 := QbX2_0.out.free 4
            go_simp
            refine hK.out _ _ (((((hHeld.setCell _ _ (.inl (by simp))).setCell _ _ (.inl (by simp))).setCell _ _ (.inl (by simp))).setCell _ _ (.inl (by simp))).setCell _ _ (.inl (by simp))) (fun hHeld => ?_)
            clear hK K x0 xf0 x1 xf1 x2 xf2 x3 xf3 x4 xf4
            try simp only [Act.put, List.setIfInBounds_toArray, List.set_cons_zero, List.set_cons_succ, List.getElem_toArray, List.getElem_cons_succ, List.getElem_cons_zero]
            obtain ⟨Zb1, hZ⟩ : ∃ Z, Z = (((((Zb0.setCell ⟨X2, 0, none⟩ (.string ⟨t1.text.toArray⟩)).setCell ⟨X2, 1, none⟩ (.int .i64 (op : Nat))).setCell ⟨X2, 2, none⟩ (.string ⟨#[]⟩)).setCell ⟨X2, 3, none⟩ (.int .i64 (t4.n : Nat))).setCell ⟨X2, 4, none⟩ (.int .i64 (t1.at_ : Nat))) := ⟨_, rfl⟩
            rw [← hZ] at hHeld ⊢
            have QbX2_1 : Hid (Blk Zb1 X2 [.string ⟨t1.text.toArray⟩, .int .i64 (op : Nat), .string ⟨#[]⟩, .int .i64 (t4.n : Nat), .int .i64 (t1.at_ : Nat)] 48) := Lib.hid (by rw [hZ]; exact (((((QbX2_0.out.set 0 (.string ⟨t1.text.toArray⟩)).set 1 (.int .i64 (op : Nat))).set 2 (.string ⟨#[]⟩)).set 3 (.int .i64 (t4.n : Nat))).set 4 (.int .i64 (t1.at_ : Nat))))
            have QbX3_1 : Hid (Blk Zb1 X3 [.slice none 0 0, .int .i64 0, .int .i64 0, .int .i64 0] 63) := Lib.hid (by rw [hZ]; exact (((((QbX3_0.out.other _ _ NX3_X2).other _ _ NX3_X2).other _ _ NX3_X2).other _ _ NX3_X2).other _ _ NX3_X2))
            clear hZ
            refine wpAnyH_ready (rs := [3]) (by kernel_rfl) (by simp) (AllReadyH.cons rfl (fun K hK => ?_) AllReadyH.nil)
            have x0 := QbX3_1.out.cell (i := 0) rfl
            have xf0 := QbX3_1.out.free 0
            have x1 := QbX3_1.out.cell (i := 1) rfl
            have xf1 := QbX3_1.out.free 1
            have x2 := QbX3_1.out.cell (i := 2) rfl
            have xf2 := QbX3_1.out.free 2
            have x3 := QbX3_1.out.cell (i := 3) rfl
            have xf3 := QbX3_1.out.free 3
            go_simp
            refine hK.out _ _ ((((hHeld.setCell _ _ (.inl (by simp))).setCell _ _ (.inl (by simp))).setCell _ _ (.inl (by simp))).setCell _ _ (.inl (by simp))) (fun hHeld => ?_)
            clear hK K x0 xf0 x1 xf1 x2 xf2 x3 xf3
            try simp only [Act.put, List.setIfInBounds_toArray, List.set_cons_zero, List.set_cons_succ, List.getElem_toArray, List.getElem_cons_succ, List.getElem_cons_zero]
            obtain ⟨Zb2, hZ⟩ : ∃ Z, Z = ((((Zb1.setCell ⟨X3, 0, none⟩ (.slice ao4 s4.l.length cap4)).setCell ⟨X3, 1, none⟩ (.int .i64 (en : Int))).setCell ⟨X3, 2, none⟩ (.int .i64 (s4.err : Int))).setCell ⟨X3, 3, none⟩ (.int .i64 (s4.at_ : Int))) := ⟨_, rfl⟩
            rw [← hZ] at hHeld ⊢
            have QbX2_2 : Hid (Blk Zb2 X2 [.string ⟨t1.text.toArray⟩, .int .i64 (op : Nat), .string ⟨#[]⟩, .int .i64 (t4.n : Nat), .int .i64 (t1.at_ : Nat)] 48) := Lib.hid (by rw [hZ]; exact ((((QbX2_1.out.other _ _ NX2_X3).other _ _ NX2_X3).other _ _ NX2_X3).other _ _ NX2_X3))
            have QbX3_2 : Hid (Blk Zb2 X3 [.slice ao4 s4.l.length cap4, .int .i64 (en : Int), .int .i64 (s4.err : Int), .int .i64 (s4.at_ : Int)] 63) := Lib.hid (by rw [hZ]; exact ((((QbX3_1.out.set 0 (.slice ao4 s4.l.length cap4)).set 1 (.int .i64 (en : Int))).set 2 (.int .i64 (s4.err : Int))).set 3 (.int .i64 (s4.at_ : Int))))
            clear hZ
            refine wpAnyH_done (by kernel_rfl) ?_ _
            try simp only [Act.put, List.setIfInBounds_toArray, List.set_cons_zero, List.set_cons_succ, List.getElem_toArray, List.getElem_cons_succ, List.getElem_cons_zero]
            have HH := Lib.hid hHeld
            clear hHeld
            go_wp2_with fail
            (try simp only [Exit.inBlock, Exit.then])
            refine bodyPost_ret (results_cell_row2 rfl _ _ X2 X3 48 63 #[.string ⟨t1.text.toArray⟩, .int .i64 (op : Nat), .string ⟨#[]⟩, .int .i64 (t4.n : Nat), .int .i64 (t1.at_ : Nat)] #[.slice ao4 s4.l.length cap4, .int .i64 (en : Int), .int .i64 (s4.err : Int), .int .i64 (s4.at_ : Int)] (0, 0) (0, 0) _ _ rfl QbX2_2.out rfl QbX3_2.out Tryd.underlying48 rfl (by kernel_rfl) Tryd.underlying63 rfl (by kernel_rfl)) rfl ?_
            have CF : Hid (Chg [] w Zb2) := Lib.hid (C11.out.trans HH.out (fun k hk => .inr (by have OX1_ := OX1.out; have OX2_ := OX2.out; have OX3_ := OX3.out; have OX4_ := OX4.out; have OX5_ := OX5.out; have OX6_ := OX6.out; have OX8_ := OX8.out; have OX9_ := OX9.out; simp only [List.mem_cons, List.not_mem_nil, or_false] at hk; omega)))
            have hs : s.test en = (⟨t1.text, op, [], t4.n, t1.at_⟩, s4) := HBASE.out (([], t4.n), s4) (by
              unfold RSt.rhs
              rw [if_pos HB3.out, HE4.out])
            first | exact ⟨(⟨t1.text, op, [], t4.n, t1.at_⟩ : Rl.Tst), s4, ao4, cap4, Lib.hid hs, Lib.hid ((HS1.out.trans HS2.out).trans HS4.out), CF, rfl⟩ | exact ⟨(⟨t1.text, op, [], t4.n, t1.at_⟩ : Rl.Tst), s4, Lib.hid hs, ao4, cap4, Lib.hid ((HS1.out.trans HS2.out).trans HS4.out), CF, rfl⟩
          | false =>
            have cX1_0 := HX1_8.out.cell (i := 0) rfl
            have cX1_1 := HX1_8.out.cell (i := 1) rfl
            have cX1_2 := HX1_8.out.cell (i := 2) rfl
            have cX1_3 := HX1_8.out.cell (i := 3) rfl
            go_wp2_with fail
            clear cX1_0 cX1_1 cX1_2 cX1_3
            refine take_r (Lib.hid ((HS1.out.trans HS2.out).to HT.out C8.out)) 1 (fun t4 s4 ao4 cap4 w4 HE4 HS4 D4 => ?_)
            have HX1_9 : Hid (Blk w4 X1 [.slice ao2 s2.l.length cap2, .int .i64 (en : Int), .int .i64 (s2.err : Int), .int .i64 (s2.at_ : Int)] 63) := Lib.hid (D4.out.blk HX1_8.out (by simp))
            have HX2_9 : Hid (Blk w4 X2 [.string ⟨#[]⟩, .int .i64 0, .string ⟨#[]⟩, .int .i64 0, .int .i64 0] 48) := Lib.hid (D4.out.blk HX2_8.out (by simp))
            have HX3_9 : Hid (Blk w4 X3 [.slice none 0 0, .int .i64 0, .int .i64 0, .int .i64 0] 63) := Lib.hid (D4.out.blk HX3_8.out (by simp))
            have HX5_9 : Hid (Blk w4 X5 [.string ⟨t1.text.toArray⟩, .int .i64 (op : Nat), .string ⟨#[]⟩, .int .i64 0, .int .i64 (t1.at_ : Nat)] 48) := Lib.hid (D4.out.blk HX5_8.out (by simp))
            have HX6_9 : Hid (Blk w4 X6 [.string ⟨#[61]⟩, .string ⟨#[33, 61]⟩, .string ⟨#[60]⟩, .string ⟨#[60, 61]⟩, .string ⟨#[62]⟩, .string ⟨#[62, 61]⟩] 9) := Lib.hid (D4.out.blk HX6_8.out (by simp))
            have C9 : Hid (Chg [] w w4) := Lib.hid (C8.out.trans D4.out (by simp))
            have cX1_0 := fun o0 : Obj => (HX1_9.out.alloc o0).cell (i := 0) rfl
            have cX1_1 := fun o0 : Obj => (HX1_9.out.alloc o0).cell (i := 1) rfl
            have cX1_2 := fun o0 : Obj => (HX1_9.out.alloc o0).cell (i := 2) rfl
            have cX1_3 := fun o0 : Obj => (HX1_9.out.alloc o0).cell (i := 3) rfl
            have cX1_f0 := fun o0 : Obj => (HX1_9.out.alloc o0).free 0
            have cX1_f1 := fun o0 : Obj => (HX1_9.out.alloc o0).free 1
            have cX1_f2 := fun o0 : Obj => (HX1_9.out.alloc o0).free 2
            have cX1_f3 := fun o0 : Obj => (HX1_9.out.alloc o0).free 3
            go_upto_region 17 with fail
            clear cX1_0 cX1_1 cX1_2 cX1_3 cX1_f0 cX1_f1 cX1_f2 cX1_f3
            obtain ⟨W10, hW⟩ : ∃ W, W = (((((w4.alloc (.cells #[.int .i64 (t4.kind : Nat), .string ⟨t4.text.toArray⟩, .int .i64 (t4.n : Nat), .int .i64 (t4.at_ : Nat)] 44)).setCell ⟨X1, 0, none⟩ (.slice ao4 s4.l.length cap4)).setCell ⟨X1, 1, none⟩ (.int .i64 (en : Int))).setCell ⟨X1, 2, none⟩ (.int .i64 (s4.err : Int))).setCell ⟨X1, 3, none⟩ (.int .i64 (s4.at_ : Int))) := ⟨_, rfl⟩
            rw [← hW]
            obtain ⟨X8, hX8⟩ : ∃ T, T = w4.heap.size := ⟨_, rfl⟩
            try rw [← hX8]
            have OX8 : Hid (X6 < X8) := Lib.hid (by rw [hX8]; exact HX6_9.out.lt)
            have NX8_X1 : X8 ≠ X1 := by have OX1_ := OX1.out; have OX2_ := OX2.out; have OX3_ := OX3.out; have OX4_ := OX4.out; have OX5_ := OX5.out; have OX6_ := OX6.out; have OX8_ := OX8.out; omega
            have NX1_X8 : X1 ≠ X8 := NX8_X1.symm
            have HX1_10 : Hid (Blk W10 X1 [.slice ao4 s4.l.length cap4, .int .i64 (en : Int), .int .i64 (s4.err : Int), .int .i64 (s4.at_ : Int)] 63) := Lib.hid (by rw [hW]; exact (((((HX1_9.out.alloc _).set 0 (.slice ao4 s4.l.length cap4)).set 1 (.int .i64 (en : Int))).set 2 (.int .i64 (s4.err : Int))).set 3 (.int .i64 (s4.at_ : Int))))
            have HX2_10 : Hid (Blk W10 X2 [.string ⟨#[]⟩, .int .i64 0, .string ⟨#[]⟩, .int .i64 0, .int .i64 0] 48) := Lib.hid (by rw [hW]; exact (((((HX2_9.out.alloc _).other _ _ NX2_X1).other _ _ NX2_X1).other _ _ NX2_X1).other _ _ NX2_X1))
            have HX3_10 : Hid (Blk W10 X3 [.slice none 0 0, .int .i64 0, .int .i64 0, .int .i64 0] 63) := Lib.hid (by rw [hW]; exact (((((HX3_9.out.alloc _).other _ _ NX3_X1).other _ _ NX3_X1).other _ _ NX3_X1).other _ _ NX3_X1))
            have HX5_10 : Hid (Blk W10 X5 [.string ⟨t1.text.toArray⟩, .int .i64 (op : Nat), .string ⟨#[]⟩, .int .i64 0, .int .i64 (t1.at_ : Nat)] 48) := Lib.hid (by rw [hW]; exact (((((HX5_9.out.alloc _).other _ _ NX5_X1).other _ _ NX5_X1).other _ _ NX5_X1).other _ _ NX5_X1))
            have HX8_10 : Hid (Blk W10 X8 [.int .i64 (t4.kind : Nat), .string ⟨t4.text.toArray⟩, .int .i64 (t4.n : Nat), .int .i64 (t4.at_ : Nat)] 44) := Lib.hid (by
              have h1 := Blk.new w4 [.int .i64 (t4.kind : Nat), .string ⟨t4.text.toArray⟩, .int .i64 (t4.n : Nat), .int .i64 (t4.at_ : Nat)] 44
              have h2 : w4.heap.size = X8 := by simp [hX8]
              rw [h2] at h1
              rw [hW]
              exact ((((h1.other _ _ NX8_X1).other _ _ NX8_X1).other _ _ NX8_X1).other _ _ NX8_X1))
            have C10 : Hid (Chg [] w W10) := Lib.hid (by rw [hW]; exact (((((C9.out.alloc _).setCell _ _ (.inr (by have OX1_ := OX1.out; have OX2_ := OX2.out; have OX3_ := OX3.out; have OX4_ := OX4.out; have OX5_ := OX5.out; have OX6_ := OX6.out; have OX8_ := OX8.out; show w.heap.size ≤ X1; omega))).setCell _ _ (.inr (by have OX1_ := OX1.out; have OX2_ := OX2.out; have OX3_ := OX3.out; have OX4_ := OX4.out; have OX5_ := OX5.out; have OX6_ := OX6.out; have OX8_ := OX8.out; show w.heap.size ≤ X1; omega))).setCell _ _ (.inr (by have OX1_ := OX1.out; have OX2_ := OX2.out; have OX3_ := OX3.out; have OX4_ := OX4.out; have OX5_ := OX5.out; have OX6_ := OX6.out; have OX8_ := OX8.out; show w.heap.size ≤ X1; omega))).setCell _ _ (.inr (by have OX1_ := OX1.out; have OX2_ := OX2.out; have OX3_ := OX3.out; have OX4_ := OX4.out; have OX5_ := OX5.out; have OX6_ := OX6.out; have OX8_ := OX8.out; show w.heap.size ≤ X1; omega))))
            clear hW hX8
            have cX8_0 := HX8_10.out.cell (i := 0) rfl
            have cX8_1 := HX8_10.out.cell (i := 1) rfl
            have cX8_2 := HX8_10.out.cell (i := 2) rfl
            have cX8_3 := HX8_10.out.cell (i := 3) rfl
            have cX5_0 := HX5_10.out.cell (i := 0) rfl
            have cX5_1 := HX5_10.out.cell (i := 1) rfl
            have cX5_2 := HX5_10.out.cell (i := 2) rfl
            have cX5_3 := HX5_10.out.cell (i := 3) rfl
            have cX5_4 := HX5_10.out.cell (i := 4) rfl
            have cX5_f0 := HX5_10.out.free 0
            have cX5_f1 := HX5_10.out.free 1
            have cX5_f2 := HX5_10.out.free 2
            have cX5_f3 := HX5_10.out.free 3
            have cX5_f4 := HX5_10.out.free 4
            go_upto_region 18 with fail
            clear cX8_0 cX8_1 cX8_2 cX8_3 cX5_0 cX5_1 cX5_2 cX5_3 cX5_4 cX5_f0 cX5_f1 cX5_f2 cX5_f3 cX5_f4
            have NX8_X5 : X8 ≠ X5 := by have OX1_ := OX1.out; have OX2_ := OX2.out; have OX3_ := OX3.out; have OX4_ := OX4.out; have OX5_ := OX5.out; have OX6_ := OX6.out; have OX8_ := OX8.out; omega
            have NX5_X8 : X5 ≠ X8 := NX8_X5.symm
            obtain ⟨W11, hW⟩ : ∃ W, W = (W10.setCell ⟨X5, 2, none⟩ (.string ⟨t4.text.toArray⟩)) := ⟨_, rfl⟩
            rw [← hW]
            have HX1_11 : Hid (Blk W11 X1 [.slice ao4 s4.l.length cap4, .int .i64 (en : Int), .int .i64 (s4.err : Int), .int .i64 (s4.at_ : Int)] 63) := Lib.hid (by rw [hW]; exact (HX1_10.out.other _ _ NX1_X5))
            have HX2_11 : Hid (Blk W11 X2 [.string ⟨#[]⟩, .int .i64 0, .string ⟨#[]⟩, .int .i64 0, .int .i64 0] 48) := Lib.hid (by rw [hW]; exact (HX2_10.out.other _ _ NX2_X5))
            have HX3_11 : Hid (Blk W11 X3 [.slice none 0 0, .int .i64 0, .int .i64 0, .int .i64 0] 63) := Lib.hid (by rw [hW]; exact (HX3_10.out.other _ _ NX3_X5))
            have HX5_11 : Hid (Blk W11 X5 [.string ⟨t1.text.toArray⟩, .int .i64 (op : Nat), .string ⟨t4.text.toArray⟩, .int .i64 0, .int .i64 (t1.at_ : Nat)] 48) := Lib.hid (by rw [hW]; exact (HX5_10.out.set 2 (.string ⟨t4.text.toArray⟩)))
            have HX8_11 : Hid (Blk W11 X8 [.int .i64 (t4.kind : Nat), .string ⟨t4.text.toArray⟩, .int .i64 (t4.n : Nat), .int .i64 (t4.at_ : Nat)] 44) := Lib.hid (by rw [hW]; exact (HX8_10.out.other _ _ NX8_X5))
            have C11 : Hid (Chg [] w W11) := Lib.hid (by rw [hW]; exact (C10.out.setCell _ _ (.inr (by have OX1_ := OX1.out; have OX2_ := OX2.out; have OX3_ := OX3.out; have OX4_ := OX4.out; have OX5_ := OX5.out; have OX6_ := OX6.out; have OX8_ := OX8.out; show w.heap.size ≤ X5; omega))))
            clear hW
            have cX1_0 := HX1_11.out.cell (i := 0) rfl
            have cX1_1 := HX1_11.out.cell (i := 1) rfl
            have cX1_2 := HX1_11.out.cell (i := 2) rfl
            have cX1_3 := HX1_11.out.cell (i := 3) rfl
            go_wp2_with fail
            clear cX1_0 cX1_1 cX1_2 cX1_3
            refine is_r (Lib.hid (((HS1.out.trans HS2.out).trans HS4.out).to HT.out C11.out)) 3 [46] (fun b5 w5 HB5 D5 => ?_)
            have HX1_12 : Hid (Blk w5 X1 [.slice ao4 s4.l.length cap4, .int .i64 (en : Int), .int .i64 (s4.err : Int), .int .i64 (s4.at_ : Int)] 63) := Lib.hid (D5.out.blk HX1_11.out (by simp))
            have HX2_12 : Hid (Blk w5 X2 [.string ⟨#[]⟩, .int .i64 0, .string ⟨#[]⟩, .int .i64 0, .int .i64 0] 48) := Lib.hid (D5.out.blk HX2_11.out (by simp))
            have HX3_12 : Hid (Blk w5 X3 [.slice none 0 0, .int .i64 0, .int .i64 0, .int .i64 0] 63) := Lib.hid (D5.out.blk HX3_11.out (by simp))
            have HX5_12 : Hid (Blk w5 X5 [.string ⟨t1.text.toArray⟩, .int .i64 (op : Nat), .string ⟨t4.text.toArray⟩, .int .i64 0, .int .i64 (t1.at_ : Nat)] 48) := Lib.hid (D5.out.blk HX5_11.out (by simp))
            have HX8_12 : Hid (Blk w5 X8 [.int .i64 (t4.kind : Nat), .string ⟨t4.text.toArray⟩, .int .i64 (t4.n : Nat), .int .i64 (t4.at_ : Nat)] 44) := Lib.hid (D5.out.blk HX8_11.out (by simp))
            have C12 : Hid (Chg [] w w5) := Lib.hid (C11.out.trans D5.out (by simp))
            cases b5 with
            | true =>
              have cX1_0 := HX1_12.out.cell (i := 0) rfl
              have cX1_1 := HX1_12.out.cell (i := 1) rfl
              have cX1_2 := HX1_12.out.cell (i := 2) rfl
              have cX1_3 := HX1_12.out.cell (i := 3) rfl
              go_wp2_with fail
              clear cX1_0 cX1_1 cX1_2 cX1_3
              refine word_r (Lib.hid (((HS1.out.trans HS2.out).trans HS4.out).to HT.out C12.out)) [46] (fun s6 ao6 cap6 w6 HE6 HS6 D6 => ?_)
              have HX1_13 : Hid (Blk w6 X1 [.slice ao4 s4.l.length cap4, .int .i64 (en : Int), .int .i64 (s4.err : Int), .int .i64 (s4.at_ : Int)] 63) := Lib.hid (D6.out.blk HX1_12.out (by simp))
              have HX2_13 : Hid (Blk w6 X2 [.string ⟨#[]⟩, .int .i64 0, .string ⟨#[]⟩, .int .i64 0, .int .i64 0] 48) := Lib.hid (D6.out.blk HX2_12.out (by simp))
              have HX3_13 : Hid (Blk w6 X3 [.slice none 0 0, .int .i64 0, .int .i64 0, .int .i64 0] 63) := Lib.hid (D6.out.blk HX3_12.out (by simp))
              have HX5_13 : Hid (Blk w6 X5 [.string ⟨t1.text.toArray⟩, .int .i64 (op : Nat), .string ⟨t4.text.toArray⟩, .int .i64 0, .int .i64 (t1.at_ : Nat)] 48) := Lib.hid (D6.out.blk HX5_12.out (by simp))
              have HX8_13 : Hid (Blk w6 X8 [.int .i64 (t4.kind : Nat), .string ⟨t4.text.toArray⟩, .int .i64 (t4.n : Nat), .int .i64 (t4.at_ : Nat)] 44) := Lib.hid (D6.out.blk HX8_12.out (by simp))
              have C13 : Hid (Chg [] w w6) := Lib.hid (C12.out.trans D6.out (by simp))
              go_wp2_with fail
              refine take_r (Lib.hid ((((HS1.out.trans HS2.out).trans HS4.out).trans HS6.out).to HT.out C13.out)) 1 (fun t7 s7 ao7 cap7 w7 HE7 HS7 D7 => ?_)
              have HX1_14 : Hid (Blk w7 X1 [.slice ao4 s4.l.length cap4, .int .i64 (en : Int), .int .i64 (s4.err : Int), .int .i64 (s4.at_ : Int)] 63) := Lib.hid (D7.out.blk HX1_13.out (by simp))
              have HX2_14 : Hid (Blk w7 X2 [.string ⟨#[]⟩, .int .i64 0, .string ⟨#[]⟩, .int .i64 0, .int .i64 0] 48) := Lib.hid (D7.out.blk HX2_13.out (by simp))
              have HX3_14 : Hid (Blk w7 X3 [.slice none 0 0, .int .i64 0, .int .i64 0, .int .i64 0] 63) := Lib.hid (D7.out.blk HX3_13.out (by simp))
              have HX5_14 : Hid (Blk w7 X5 [.string ⟨t1.text.toArray⟩, .int .i64 (op : Nat), .string ⟨t4.text.toArray⟩, .int .i64 0, .int .i64 (t1.at_ : Nat)] 48) := Lib.hid (D7.out.blk HX5_13.out (by simp))
              have HX8_14 : Hid (Blk w7 X8 [.int .i64 (t4.kind : Nat), .string ⟨t4.text.toArray⟩, .int .i64 (t4.n : Nat), .int .i64 (t4.at_ : Nat)] 44) := Lib.hid (D7.out.blk HX8_13.out (by simp))
              have C14 : Hid (Chg [] w w7) := Lib.hid (C13.out.trans D7.out (by simp))
              go_upto_region 20 with fail
              obtain ⟨W15, hW⟩ : ∃ W, W = ((w7.alloc (.cells #[.int .i64 (t7.kind : Nat), .string ⟨t7.text.toArray⟩, .int .i64 (t7.n : Nat), .int .i64 (t7.at_ : Nat)] 44)).alloc (.cells #[.slice ao7 s7.l.length cap7, .int .i64 (en : Int), .int .i64 (s7.err : Int), .int .i64 (s7.at_ : Int)] 63)) := ⟨_, rfl⟩
              rw [← hW]
              obtain ⟨X11, hX11⟩ : ∃ T, T = w7.heap.size + 1 := ⟨_, rfl⟩
              try rw [← hX11]
              obtain ⟨X10, hX10⟩ : ∃ T, T = w7.heap.size := ⟨_, rfl⟩
              try rw [← hX10]
              have OX10 : Hid (X8 < X10) := Lib.hid (by rw [hX10]; exact HX8_14.out.lt)
              have OX11 : Hid (X10 < X11) := Lib.hid (by rw [hX11, hX10]; omega)
              have HX1_15 : Hid (Blk W15 X1 [.slice ao4 s4.l.length cap4, .int .i64 (en : Int), .int .i64 (s4.err : Int), .int .i64 (s4.at_ : Int)] 63) := Lib.hid (by rw [hW]; exact ((HX1_14.out.alloc _).alloc _))
              have HX2_15 : Hid (Blk W15 X2 [.string ⟨#[]⟩, .int .i64 0, .string ⟨#[]⟩, .int .i64 0, .int .i64 0] 48) := Lib.hid (by rw [hW]; exact ((HX2_14.out.alloc _).alloc _))
              have HX3_15 : Hid (Blk W15 X3 [.slice none 0 0, .int .i64 0, .int .i64 0, .int .i64 0] 63) := Lib.hid (by rw [hW]; exact ((HX3_14.out.alloc _).alloc _))
              have HX5_15 : Hid (Blk W15 X5 [.string ⟨t1.text.toArray⟩, .int .i64 (op : Nat), .string ⟨t4.text.toArray⟩, .int .i64 0, .int .i64 (t1.at_ : Nat)] 48) := Lib.hid (by rw [hW]; exact ((HX5_14.out.alloc _).alloc _))
              have HX10_15 : Hid (Blk W15 X10 [.int .i64 (t7.kind : Nat), .string ⟨t7.text.toArray⟩, .int .i64 (t7.n : Nat), .int .i64 (t7.at_ : Nat)] 44) := Lib.hid (by
                have h1 := Blk.new w7 [.int .i64 (t7.kind : Nat), .string ⟨t7.text.toArray⟩, .int .i64 (t7.n : Nat), .int .i64 (t7.at_ : Nat)] 44
                have h2 : w7.heap.size = X10 := by simp [hX10]
                rw [h2] at h1
                rw [hW]
                exact (h1.alloc _))
              have HX11_15 : Hid (Blk W15 X11 [.slice ao7 s7.l.length cap7, .int .i64 (en : Int), .int .i64 (s7.err : Int), .int .i64 (s7.at_ : Int)] 63) := Lib.hid (by
                have h1 := Blk.new (w7.alloc (.cells #[.int .i64 (t7.kind : Nat), .string ⟨t7.text.toArray⟩, .int .i64 (t7.n : Nat), .int .i64 (t7.at_ : Nat)] 44)) [.slice ao7 s7.l.length cap7, .int .i64 (en : Int), .int .i64 (s7.err : Int), .int .i64 (s7.at_ : Int)] 63
                have h2 : (w7.alloc (.cells #[.int .i64 (t7.kind : Nat), .string ⟨t7.text.toArray⟩, .int .i64 (t7.n : Nat), .int .i64 (t7.at_ : Nat)] 44)).heap.size = X11 := by simp [hX11]
                rw [h2] at h1
                rw [hW]
                exact h1)
              have C15 : Hid (Chg [] w W15) := Lib.hid (by rw [hW]; exact ((C14.out.alloc _).alloc _))
              clear hW hX10 hX11
              have hsm := take_small HE1.out HSM.out
              have hsm2 : Sm s2.l := by rw [HS2E.out]; exact tl_small hsm.2
              have hsm4 := take_small HE4.out hsm2
              have hsm6 : Sm s6.l := by rw [← HE6.out]; exact word_small hsm4.2
              have hsm7 := take_small HE7.out hsm6
              have m1 := hsm4.1
              have m2 := hsm7.1
              clear hsm hsm2 hsm4 hsm6 hsm7
              have k1 : ¬ 9223372036854775807 < t4.text.length + 1 := by omega
              have k2 : ¬ 9223372036854775807 < t4.text.length + 1 + t7.text.length := by omega
              have k3 : ¬ 9223372036854775807 < t4.text.length + (1 + t7.text.length) := by omega
              have cX10_0 := HX10_15.out.cell (i := 0) rfl
              have cX10_1 := HX10_15.out.cell (i := 1) rfl
              have cX10_2 := HX10_15.out.cell (i := 2) rfl
              have cX10_3 := HX10_15.out.cell (i := 3) rfl
              have cX5_0 := HX5_15.out.cell (i := 0) rfl
              have cX5_1 := HX5_15.out.cell (i := 1) rfl
              have cX5_2 := HX5_15.out.cell (i := 2) rfl
              have cX5_3 := HX5_15.out.cell (i := 3) rfl
              have cX5_4 := HX5_15.out.cell (i := 4) rfl
              have cX5_f0 := HX5_15.out.free 0
              have cX5_f1 := HX5_15.out.free 1
              have cX5_f2 := HX5_15.out.free 2
              have cX5_f3 := HX5_15.out.free 3
              have cX5_f4 := HX5_15.out.free 4
              go_upto_region 21 with fail
              clear cX10_0 cX10_1 cX10_2 cX10_3 cX5_0 cX5_1 cX5_2 cX5_3 cX5_4 cX5_f0 cX5_f1 cX5_f2 cX5_f3 cX5_f4
              rw [join3l t4.text t7.text]
              obtain ⟨nm, hnm⟩ : ∃ nm, nm = t4.text ++ ([46] ++ t7.text) := ⟨_, rfl⟩
              rw [← hnm]
              have HNM := Lib.hid hnm
              clear hnm
              have NX10_X5 : X10 ≠ X5 := by have OX1_ := OX1.out; have OX2_ := OX2.out; have OX3_ := OX3.out; have OX4_ := OX4.out; have OX5_ := OX5.out; have OX6_ := OX6.out; have OX8_ := OX8.out; have OX10_ := OX10.out; have OX11_ := OX11.out; omega
              have NX5_X10 : X5 ≠ X10 := NX10_X5.symm
              have NX11_X5 : X11 ≠ X5 := by have OX1_ := OX1.out; have OX2_ := OX2.out; have OX3_ := OX3.out; have OX4_ := OX4.out; have OX5_ := OX5.out; have OX6_ := OX6.out; have OX8_ := OX8.out; have OX10_ := OX10.out; have OX11_ := OX11.out; omega
              have NX5_X11 : X5 ≠ X11 := NX11_X5.symm
              obtain ⟨W16, hW⟩ : ∃ W, W = (W15.setCell ⟨X5, 2, none⟩ (.string ⟨nm.toArray⟩)) := ⟨_, rfl⟩
              rw [← hW]
              have HX1_16 : Hid (Blk W16 X1 [.slice ao4 s4.l.length cap4, .int .i64 (en : Int), .int .i64 (s4.err : Int), .int .i64 (s4.at_ : Int)] 63) := Lib.hid (by rw [hW]; exact (HX1_15.out.other _ _ NX1_X5))
              have HX2_16 : Hid (Blk W16 X2 [.string ⟨#[]⟩, .int .i64 0, .string ⟨#[]⟩, .int .i64 0, .int .i64 0] 48) := Lib.hid (by rw [hW]; exact (HX2_15.out.other _ _ NX2_X5))
              have HX3_16 : Hid (Blk W16 X3 [.slice none 0 0, .int .i64 0, .int .i64 0, .int .i64 0] 63) := Lib.hid (by rw [hW]; exact (HX3_15.out.other _ _ NX3_X5))
              have HX5_16 : Hid (Blk W16 X5 [.string ⟨t1.text.toArray⟩, .int .i64 (op : Nat), .string ⟨nm.toArray⟩, .int .i64 0, .int .i64 (t1.at_ : Nat)] 48) := Lib.hid (by rw [hW]; exact (HX5_15.out.set 2 (.string ⟨nm.toArray⟩)))
              have HX11_16 : Hid (Blk W16 X11 [.slice ao7 s7.l.length cap7, .int .i64 (en : Int), .int .i64 (s7.err : Int), .int .i64 (s7.at_ : Int)] 63) := Lib.hid (by rw [hW]; exact (HX11_15.out.other _ _ NX11_X5))
              have C16 : Hid (Chg [] w W16) := Lib.hid (by rw [hW]; exact (C15.out.setCell _ _ (.inr (by have OX1_ := OX1.out; have OX2_ := OX2.out; have OX3_ := OX3.out; have OX4_ := OX4.out; have OX5_ := OX5.out; have OX6_ := OX6.out; have OX8_ := OX8.out; have OX10_ := OX10.out; have OX11_ := OX11.out; show w.heap.size ≤ X5; omega))))
              clear hW
              clear k1 k2 k3 m1 m2
              have cX11_0 := HX11_16.out.cell (i := 0) rfl
              have cX11_1 := HX11_16.out.cell (i := 1) rfl
              have cX11_2 := HX11_16.out.cell (i := 2) rfl
              have cX11_3 := HX11_16.out.cell (i := 3) rfl
              have cX1_0 := HX1_16.out.cell (i := 0) rfl
              have cX1_1 := HX1_16.out.cell (i := 1) rfl
              have cX1_2 := HX1_16.out.cell (i := 2) rfl
              have cX1_3 := HX1_16.out.cell (i := 3) rfl
              have cX1_f0 := HX1_16.out.free 0
              have cX1_f1 := HX1_16.out.free 1
              have cX1_f2 := HX1_16.out.free 2
              have cX1_f3 := HX1_16.out.free 3
              go_upto_region 22 with fail
              clear cX11_0 cX11_1 cX11_2 cX11_3 cX1_0 cX1_1 cX1_2 cX1_3 cX1_f0 cX1_f1 cX1_f2 cX1_f3
              have NX10_X1 : X10 ≠ X1 := by have OX1_ := OX1.out; have OX2_ := OX2.out; have OX3_ := OX3.out; have OX4_ := OX4.out; have OX5_ := OX5.out; have OX6_ := OX6.out; have OX8_ := OX8.out; have OX10_ := OX10.out; have OX11_ := OX11.out; omega
              have NX1_X10 : X1 ≠ X10 := NX10_X1.symm
              have NX11_X1 : X11 ≠ X1 := by have OX1_ := OX1.out; have OX2_ := OX2.out; have OX3_ := OX3.out; have OX4_ := OX4.out; have OX5_ := OX5.out; have OX6_ := OX6.out; have OX8_ := OX8.out; have OX10_ := OX10.out; have OX11_ := OX11.out; omega
              have NX1_X11 : X1 ≠ X11 := NX11_X1.symm
              obtain ⟨W17, hW⟩ : ∃ W, W = ((((W16.setCell ⟨X1, 0, none⟩ (.slice ao7 s7.l.length cap7)).setCell ⟨X1, 1, none⟩ (.int .i64 (en : Int))).setCell ⟨X1, 2, none⟩ (.int .i64 (s7.err : Int))).setCell ⟨X1, 3, none⟩ (.int .i64 (s7.at_ : Int))) := ⟨_, rfl⟩
              rw [← hW]
              have HX1_17 : Hid (Blk W17 X1 [.slice ao7 s7.l.length cap7, .int .i64 (en : Int), .int .i64 (s7.err : Int), .int .i64 (s7.at_ : Int)] 63) := Lib.hid (by rw [hW]; exact ((((HX1_16.out.set 0 (.slice ao7 s7.l.length cap7)).set 1 (.int .i64 (en : Int))).set 2 (.int .i64 (s7.err : Int))).set 3 (.int .i64 (s7.at_ : Int))))
              have HX2_17 : Hid (Blk W17 X2 [.string ⟨#[]⟩, .int .i64 0, .string ⟨#[]⟩, .int .i64 0, .int .i64 0] 48) := Lib.hid (by rw [hW]; exact ((((HX2_16.out.other _ _ NX2_X1).other _ _ NX2_X1).other _ _ NX2_X1).other _ _ NX2_X1))
              have HX3_17 : Hid (Blk W17 X3 [.slice none 0 0, .int .i64 0, .int .i64 0, .int .i64 0] 63) := Lib.hid (by rw [hW]; exact ((((HX3_16.out.other _ _ NX3_X1).other _ _ NX3_X1).other _ _ NX3_X1).other _ _ NX3_X1))
              have HX5_17 : Hid (Blk W17 X5 [.string ⟨t1.text.toArray⟩, .int .i64 (op : Nat), .string ⟨nm.toArray⟩, .int .i64 0, .int .i64 (t1.at_ : Nat)] 48) := Lib.hid (by rw [hW]; exact ((((HX5_16.out.other _ _ NX5_X1).other _ _ NX5_X1).other _ _ NX5_X1).other _ _ NX5_X1))
              have C17 : Hid (Chg [] w W17) := Lib.hid (by rw [hW]; exact ((((C16.out.setCell _ _ (.inr (by have OX1_ := OX1.out; have OX2_ := OX2.out; have OX3_ := OX3.out; have OX4_ := OX4.out; have OX5_ := OX5.out; have OX6_ := OX6.out; have OX8_ := OX8.out; have OX10_ := OX10.out; have OX11_ := OX11.out; show w.heap.size ≤ X1; omega))).setCell _ _ (.inr (by have OX1_ := OX1.out; have OX2_ := OX2.out; have OX3_ := OX3.out; have OX4_ := OX4.out; have OX5_ := OX5.out; have OX6_ := OX6.out; have OX8_ := OX8.out; have OX10_ := OX10.out; have OX11_ := OX11.out; show w.heap.size ≤ X1; omega))).setCell _ _ (.inr (by have OX1_ := OX1.out; have OX2_ := OX2.out; have OX3_ := OX3.out; have OX4_ := OX4.out; have OX5_ := OX5.out; have OX6_ := OX6.out; have OX8_ := OX8.out; have OX10_ := OX10.out; have OX11_ := OX11.out; show w.heap.size ≤ X1; omega))).setCell _ _ (.inr (by have OX1_ := OX1.out; have OX2_ := OX2.out; have OX3_ := OX3.out; have OX4_ := OX4.out; have OX5_ := OX5.out; have OX6_ := OX6.out; have OX8_ := OX8.out; have OX10_ := OX10.out; have OX11_ := OX11.out; show w.heap.size ≤ X1; omega))))
              clear hW
              have NX2_X3 : X2 ≠ X3 := by have OX1_ := OX1.out; have OX2_ := OX2.out; have OX3_ := OX3.out; have OX4_ := OX4.out; have OX5_ := OX5.out; have OX6_ := OX6.out; have OX8_ := OX8.out; have OX10_ := OX10.out; have OX11_ := OX11.out; omega
              have NX3_X2 : X3 ≠ X2 := NX2_X3.symm
              have NX4_X2 : X4 ≠ X2 := by have OX1_ := OX1.out; have OX2_ := OX2.out; have OX3_ := OX3.out; have OX4_ := OX4.out; have OX5_ := OX5.out; have OX6_ := OX6.out; have OX8_ := OX8.out; have OX10_ := OX10.out; have OX11_ := OX11.out; omega
              have NX2_X4 : X2 ≠ X4 := NX4_X2.symm
              have NX4_X3 : X4 ≠ X3 := by have OX1_ := OX1.out; have OX2_ := OX2.out; have OX3_ := OX3.out; have OX4_ := OX4.out; have OX5_ := OX5.out; have OX6_ := OX6.out; have OX8_ := OX8.out; have OX10_ := OX10.out; have OX11_ := OX11.out; omega
              have NX3_X4 : X3 ≠ X4 := NX4_X3.symm
              have NX6_X2 : X6 ≠ X2 := by have OX1_ := OX1.out; have OX2_ := OX2.out; have OX3_ := OX3.out; have OX4_ := OX4.out; have OX5_ := OX5.out; have OX6_ := OX6.out; have OX8_ := OX8.out; have OX10_ := OX10.out; have OX11_ := OX11.out; omega
              have NX2_X6 : X2 ≠ X6 := NX6_X2.symm
              have NX6_X3 : X6 ≠ X3 := by have OX1_ := OX1.out; have OX2_ := OX2.out; have OX3_ := OX3.out; have OX4_ := OX4.out; have OX5_ := OX5.out; have OX6_ := OX6.out; have OX8_ := OX8.out; have OX10_ := OX10.out; have OX11_ := OX11.out; omega
              have NX3_X6 : X3 ≠ X6 := NX6_X3.symm
              have NX8_X2 : X8 ≠ X2 := by have OX1_ := OX1.out; have OX2_ := OX2.out; have OX3_ := OX3.out; have OX4_ := OX4.out; have OX5_ := OX5.out; have OX6_ := OX6.out; have OX8_ := OX8.out; have OX10_ := OX10.out; have OX11_ := OX11.out; omega
              have NX2_X8 : X2 ≠ X8 := NX8_X2.symm
              have NX8_X3 : X8 ≠ X3 := by have OX1_ := OX1.out; have OX2_ := OX2.out; have OX3_ := OX3.out; have OX4_ := OX4.out; have OX5_ := OX5.out; have OX6_ := OX6.out; have OX8_ := OX8.out; have OX10_ := OX10.out; have OX11_ := OX11.out; omega
              have NX3_X8 : X3 ≠ X8 := NX8_X3.symm
              have NX10_X2 : X10 ≠ X2 := by have OX1_ := OX1.out; have OX2_ := OX2.out; have OX3_ := OX3.out; have OX4_ := OX4.out; have OX5_ := OX5.out; have OX6_ := OX6.out; have OX8_ := OX8.out; have OX10_ := OX10.out; have OX11_ := OX11.out; omega
              have NX2_X10 : X2 ≠ X10 := NX10_X2.symm
              have NX10_X3 : X10 ≠ X3 := by have OX1_ := OX1.out; have OX2_ := OX2.out; have OX3_ := OX3.out; have OX4_ := OX4.out; have OX5_ := OX5.out; have OX6_ := OX6.out; have OX8_ := OX8.out; have OX10_ := OX10.out; have OX11_ := OX11.out; omega
              have NX3_X10 : X3 ≠ X10 := NX10_X3.symm
              have NX11_X2 : X11 ≠ X2 := by have OX1_ := OX1.out; have OX2_ := OX2.out; have OX3_ := OX3.out; have OX4_ := OX4.out; have OX5_ := OX5.out; have OX6_ := OX6.out; have OX8_ := OX8.out; have OX10_ := OX10.out; have OX11_ := OX11.out; omega
              have NX2_X11 : X2 ≠ X11 := NX11_X2.symm
              have NX11_X3 : X11 ≠ X3 := by have OX1_ := OX1.out; have OX2_ := OX2.out; have OX3_ := OX3.out; have OX4_ := OX4.out; have OX5_ := OX5.out; have OX6_ := OX6.out; have OX8_ := OX8.out; have OX10_ := OX10.out; have OX11_ := OX11.out; omega
              have NX3_X11 : X3 ≠ X11 := NX11_X3.symm
              have MeX5_0 : X5 ∉ [X2, X3] := by simp [NX5_X2, NX5_X3]
              have MeX1_1 : X1 ∉ [X2, X3] := by simp [NX1_X2, NX1_X3]
              refine wp_region_held_drew (S := fun W' => Chg [X2, X3] W17 W') (by kernel_rfl) (Chg.refl _ _).drew (fun hHeld => ?_)
              refine wpAnyH_take (i := 0) (v := ?ve0) rfl (by kernel_rfl) (by kernel_rfl) (by kernel_rfl) (fun _ _ _ h => h) (Or.inl ⟨by kernel_rfl, ?hye0⟩) (by assumption) ?rse0
              case hye0 => (intro w9 hSw; have e0 := cell_quiet hSw (HX5_17.out.cell (i := 0) rfl) MeX5_0; have e1 := cell_quiet hSw (HX5_17.out.cell (i := 1) rfl) MeX5_0; have e2 := cell_quiet hSw (HX5_17.out.cell (i := 2) rfl) MeX5_0; have e3 := cell_quiet hSw (HX5_17.out.cell (i := 3) rfl) MeX5_0; have e4 := cell_quiet hSw (HX5_17.out.cell (i := 4) rfl) MeX5_0; go_simp; try with_reducible rfl)
              try simp only [Act.put, List.setIfInBounds_toArray, List.set_cons_zero, List.set_cons_succ, List.getElem_toArray, List.getElem_cons_succ, List.getElem_cons_zero]
              refine wpAnyH_take (i := 1) (v := ?ve1) rfl (by kernel_rfl) (by kernel_rfl) (by kernel_rfl) (fun _ _ _ h => h) (Or.inl ⟨by kernel_rfl, ?hye1⟩) (by assumption) ?rse1
              case hye1 => (intro w9 hSw; have e0 := cell_quiet hSw (HX1_17.out.cell (i := 0) rfl) MeX1_1; have e1 := cell_quiet hSw (HX1_17.out.cell (i := 1) rfl) MeX1_1; have e2 := cell_quiet hSw (HX1_17.out.cell (i := 2) rfl) MeX1_1; have e3 := cell_quiet hSw (HX1_17.out.cell (i := 3) rfl) MeX1_1; go_simp; try with_reducible rfl)
              try simp only [Act.put, List.setIfInBounds_toArray, List.set_cons_zero, List.set_cons_succ, List.getElem_toArray, List.getElem_cons_succ, List.getElem_cons_zero]
              obtain ⟨Ze0, hZ⟩ : ∃ Z, Z = W17.drew := ⟨_, rfl⟩
              rw [← hZ] at hHeld ⊢
              have QeX2_0 : Hid (Blk Ze0 X2 [.string ⟨#[]⟩, .int .i64 0, .string ⟨#[]⟩, .int .i64 0, .int .i64 0] 48) := Lib.hid (by rw [hZ]; exact HX2_17.out.drew)
              have QeX3_0 : Hid (Blk Ze0 X3 [.slice none 0 0, .int .i64 0, .int .i64 0, .int .i64 0] 63) := Lib.hid (by rw [hZ]; exact HX3_17.out.drew)
              clear hZ
              refine wpAnyH_ready (rs := [2]) (by kernel_rfl) (by simp) (AllReadyH.cons rfl (fun K hK => ?_) AllReadyH.nil)
              have x0 := QeX2_0.out.cell (i := 0) rfl
              have xf0 := QeX2_0.out.free 0
              have x1 := QeX2_0.out.cell (i := 1) rfl
              have xf1 := QeX2_0.out.free 1
              have x2 := QeX2_0.out.cell (i := 2) rfl
              have xf2 := QeX2_0.out.free 2
              have x3 := QeX2_0.out.cell (i := 3) rfl
              have xf3 := QeX2_0.out.free 3
              have x4 := QeX2_0.out.cell (i := 4) rfl
              have xf4 := QeX2_0.out.free 4
              go_simp
              refine hK.out _ _ (((((hHeld.setCell _ _ (.inl (by simp))).setCell _ _ (.inl (by simp))).setCell _ _ (.inl (by simp))).setCell _ _ (.inl (by simp))).setCell _ _ (.inl (by simp))) (fun hHeld => ?_)
              clear hK K x0 xf0 x1 xf1 x2 xf2 x3 xf3 x4 xf4
              try simp only [Act.put, List.setIfInBounds_toArray, List.set_cons_zero, List.set_cons_succ, List.getElem_toArray, List.getElem_cons_succ, List.getElem_cons_zero]
              obtain ⟨Ze1, hZ⟩ : ∃ Z, Z = (((((Ze0.setCell ⟨X2, 0, none⟩ (.string ⟨t1.text.toArray⟩)).setCell ⟨X2, 1, none⟩ (.int .i64 (op : Nat))).setCell ⟨X2, 2, none⟩ (.string ⟨nm.toArray⟩)).setCell ⟨X2, 3, none⟩ (.int .i64 0)).setCell ⟨X2, 4, none⟩ (.int .i64 (t1.at_ : Nat))) := ⟨_, rfl⟩
              rw [← hZ] at hHeld ⊢
              have QeX2_1 : Hid (Blk Ze1 X2 [.string ⟨t1.text.toArray⟩, .int .i64 (op : Nat), .string ⟨nm.toArray⟩, .int .i64 0, .int .i64 (t1.at_ : Nat)] 48) := Lib.hid (by rw [hZ]; exact (((((QeX2_0.out.set 0 (.string ⟨t1.text.toArray⟩)).set 1 (.int .i64 (op : Nat))).set 2 (.string ⟨nm.toArray⟩)).set 3 (.int .i64 0)).set 4 (.int .i64 (t1.at_ : Nat))))
              have QeX3_1 : Hid (Blk Ze1 X3 [.slice none 0 0, .int .i64 0, .int .i64 0, .int .i64 0] 63) := Lib.hid (by rw [hZ]; exact (((((QeX3_0.out.other _ _ NX3_X2).other _ _ NX3_X2).other _ _ NX3_X2).other _ _ NX3_X2).other _ _ NX3_X2))
              clear hZ
              refine wpAnyH_ready (rs := [3]) (by kernel_rfl) (by simp) (AllReadyH.cons rfl (fun K hK => ?_) AllReadyH.nil)
              have x0 := QeX3_1.out.cell (i := 0) rfl
              have xf0 := QeX3_1.out.free 0
              have x1 := QeX3_1.out.cell (i := 1) rfl
              have xf1 := QeX3_1.out.free 1
              have x2 := QeX3_1.out.cell (i := 2) rfl
              have xf2 := QeX3_1.out.free 2
              have x3 := QeX3_1.out.cell (i := 3) rfl
              have xf3 := QeX3_1.out.free 3
              go_simp
              refine hK.out _ _ ((((hHeld.setCell _ _ (.inl (by simp))).setCell _ _ (.inl (by simp))).setCell _ _ (.inl (by simp))).setCell _ _ (.inl (by simp))) (fun hHeld => ?_)
              clear hK K x0 xf0 x1 xf1 x2 xf2 x3 xf3
              try simp only [Act.put, List.setIfInBounds_toArray, List.set_cons_zero, List.set_cons_succ, List.getElem_toArray, List.getElem_cons_succ, List.getElem_cons_zero]
              obtain ⟨Ze2, hZ⟩ : ∃ Z, Z = ((((Ze1.setCell ⟨X3, 0, none⟩ (.slice ao7 s7.l.length cap7)).setCell ⟨X3, 1, none⟩ (.int .i64 (en : Int))).setCell ⟨X3, 2, none⟩ (.int .i64 (s7.err : Int))).setCell ⟨X3, 3, none⟩ (.int .i64 (s7.at_ : Int))) := ⟨_, rfl⟩
              rw [← hZ] at hHeld ⊢
              have QeX2_2 : Hid (Blk Ze2 X2 [.string ⟨t1.text.toArray⟩, .int .i64 (op : Nat), .string ⟨nm.toArray⟩, .int .i64 0, .int .i64 (t1.at_ : Nat)] 48) := Lib.hid (by rw [hZ]; exact ((((QeX2_1.out.other _ _ NX2_X3).other _ _ NX2_X3).other _ _ NX2_X3).other _ _ NX2_X3))
              have QeX3_2 : Hid (Blk Ze2 X3 [.slice ao7 s7.l.length cap7, .int .i64 (en : Int), .int .i64 (s7.err : Int), .int .i64 (s7.at_ : Int)] 63) := Lib.hid (by rw [hZ]; exact ((((QeX3_1.out.set 0 (.slice ao7 s7.l.length cap7)).set 1 (.int .i64 (en : Int))).set 2 (.int .i64 (s7.err : Int))).set 3 (.int .i64 (s7.at_ : Int))))
              clear hZ
              refine wpAnyH_done (by kernel_rfl) ?_ _
              try simp only [Act.put, List.setIfInBounds_toArray, List.set_cons_zero, List.set_cons_succ, List.getElem_toArray, List.getElem_cons_succ, List.getElem_cons_zero]
              have HH := Lib.hid hHeld
              clear hHeld
              go_wp2_with fail
              (try simp only [Exit.inBlock, Exit.then])
              refine bodyPost_ret (results_cell_row2 rfl _ _ X2 X3 48 63 #[.string ⟨t1.text.toArray⟩, .int .i64 (op : Nat), .string ⟨nm.toArray⟩, .int .i64 0, .int .i64 (t1.at_ : Nat)] #[.slice ao7 s7.l.length cap7, .int .i64 (en : Int), .int .i64 (s7.err : Int), .int .i64 (s7.at_ : Int)] (0, 0) (0, 0) _ _ rfl QeX2_2.out rfl QeX3_2.out Tryd.underlying48 rfl (by kernel_rfl) Tryd.underlying63 rfl (by kernel_rfl)) rfl ?_
              have CF : Hid (Chg [] w Ze2) := Lib.hid (C17.out.trans HH.out (fun k hk => .inr (by have OX1_ := OX1.out; have OX2_ := OX2.out; have OX3_ := OX3.out; have OX4_ := OX4.out; have OX5_ := OX5.out; have OX6_ := OX6.out; have OX8_ := OX8.out; have OX10_ := OX10.out; have OX11_ := OX11.out; simp only [List.mem_cons, List.not_mem_nil, or_false] at hk; omega)))
              have hs : s.test en = (⟨t1.text, op, nm, 0, t1.at_⟩, s7) := HBASE.out ((nm, 0), s7) (by
                unfold RSt.rhs
                rw [if_neg (by rw [HB3.out]; simp), HE4.out]
                simp only
                rw [if_pos HB5.out, HE6.out, HE7.out, HNM.out])
              first | exact ⟨(⟨t1.text, op, nm, 0, t1.at_⟩ : Rl.Tst), s7, ao7, cap7, Lib.hid hs, Lib.hid ((((HS1.out.trans HS2.out).trans HS4.out).trans HS6.out).trans HS7.out), CF, rfl⟩ | exact ⟨(⟨t1.text, op, nm, 0, t1.at_⟩ : Rl.Tst), s7, Lib.hid hs, ao7, cap7, Lib.hid ((((HS1.out.trans HS2.out).trans HS4.out).trans HS6.out).trans HS7.out), CF, rfl⟩
            | false =>
              go_upto_region 22 with fail
              have NX2_X3 : X2 ≠ X3 := by have OX1_ := OX1.out; have OX2_ := OX2.out; have OX3_ := OX3.out; have OX4_ := OX4.out; have OX5_ := OX5.out; have OX6_ := OX6.out; have OX8_ := OX8.out; omega
              have NX3_X2 : X3 ≠ X2 := NX2_X3.symm
              have NX4_X2 : X4 ≠ X2 := by have OX1_ := OX1.out; have OX2_ := OX2.out; have OX3_ := OX3.out; have OX4_ := OX4.out; have OX5_ := OX5.out; have OX6_ := OX6.out; have OX8_ := OX8.out; omega
              have NX2_X4 : X2 ≠ X4 := NX4_X2.symm
              have NX4_X3 : X4 ≠ X3 := by have OX1_ := OX1.out; have OX2_ := OX2.out; have OX3_ := OX3.out; have OX4_ := OX4.out; have OX5_ := OX5.out; have OX6_ := OX6.out; have OX8_ := OX8.out; omega
              have NX3_X4 : X3 ≠ X4 := NX4_X3.symm
              have NX6_X2 : X6 ≠ X2 := by have OX1_ := OX1.out; have OX2_ := OX2.out; have OX3_ := OX3.out; have OX4_ := OX4.out; have OX5_ := OX5.out; have OX6_ := OX6.out; have OX8_ := OX8.out; omega
              have NX2_X6 : X2 ≠ X6 := NX6_X2.symm
              have NX6_X3 : X6 ≠ X3 := by have OX1_ := OX1.out; have OX2_ := OX2.out; have OX3_ := OX3.out; have OX4_ := OX4.out; have OX5_ := OX5.out; have OX6_ := OX6.out; have OX8_ := OX8.out; omega
              have NX3_X6 : X3 ≠ X6 := NX6_X3.symm
              have NX8_X2 : X8 ≠ X2 := by have OX1_ := OX1.out; have OX2_ := OX2.out; have OX3_ := OX3.out; have OX4_ := OX4.out; have OX5_ := OX5.out; have OX6_ := OX6.out; have OX8_ := OX8.out; omega
              have NX2_X8 : X2 ≠ X8 := NX8_X2.symm
              have NX8_X3 : X8 ≠ X3 := by have OX1_ := OX1.out; have OX2_ := OX2.out; have OX3_ := OX3.out; have OX4_ := OX4.out; have OX5_ := OX5.out; have OX6_ := OX6.out; have OX8_ := OX8.out; omega
              have NX3_X8 : X3 ≠ X8 := NX8_X3.symm
              have MdX5_0 : X5 ∉ [X2, X3] := by simp [NX5_X2, NX5_X3]
              have MdX1_1 : X1 ∉ [X2, X3] := by simp [NX1_X2, NX1_X3]
              refine wp_region_held_drew (S := fun W' => Chg [X2, X3] w5 W') (by kernel_rfl) (Chg.refl _ _).drew (fun hHeld => ?_)
              refine wpAnyH_take (i := 0) (v := ?vd0) rfl (by kernel_rfl) (by kernel_rfl) (by kernel_rfl) (fun _ _ _ h => h) (Or.inl ⟨by kernel_rfl, ?hyd0⟩) (by assumption) ?rsd0
              case hyd0 => (intro w9 hSw; have e0 := cell_quiet hSw (HX5_12.out.cell (i := 0) rfl) MdX5_0; have e1 := cell_quiet hSw (HX5_12.out.cell (i := 1) rfl) MdX5_0; have e2 := cell_quiet hSw (HX5_12.out.cell (i := 2) rfl) MdX5_0; have e3 := cell_quiet hSw (HX5_12.out.cell (i := 3) rfl) MdX5_0; have e4 := cell_quiet hSw (HX5_12.out.cell (i := 4) rfl) MdX5_0; go_simp; try with_reducible rfl)
              try simp only [Act.put, List.setIfInBounds_toArray, List.set_cons_zero, List.set_cons_succ, List.getElem_toArray, List.getElem_cons_succ, List.getElem_cons_zero]
              refine wpAnyH_take (i := 1) (v := ?vd1) rfl (by kernel_rfl) (by kernel_rfl) (by kernel_rfl) (fun _ _ _ h => h) (Or.inl ⟨by kernel_rfl, ?hyd1⟩) (by assumption) ?rsd1
              case hyd1 => (intro w9 hSw; have e0 := cell_quiet hSw (HX1_12.out.cell (i := 0) rfl) MdX1_1; have e1 := cell_quiet hSw (HX1_12.out.cell (i := 1) rfl) MdX1_1; have e2 := cell_quiet hSw (HX1_12.out.cell (i := 2) rfl) MdX1_1; have e3 := cell_quiet hSw (HX1_12.out.cell (i := 3) rfl) MdX1_1; go_simp; try with_reducible rfl)
              try simp only [Act.put, List.setIfInBounds_toArray, List.set_cons_zero, List.set_cons_succ, List.getElem_toArray, List.getElem_cons_succ, List.getElem_cons_zero]
              obtain ⟨Zd0, hZ⟩ : ∃ Z, Z = w5.drew := ⟨_, rfl⟩
              rw [← hZ] at hHeld ⊢
              have QdX2_0 : Hid (Blk Zd0 X2 [.string ⟨#[]⟩, .int .i64 0, .string ⟨#[]⟩, .int .i64 0, .int .i64 0] 48) := Lib.hid (by rw [hZ]; exact HX2_12.out.drew)
              have QdX3_0 : Hid (Blk Zd0 X3 [.slice none 0 0, .int .i64 0, .int .i64 0, .int .i64 0] 63) := Lib.hid (by rw [hZ]; exact HX3_12.out.drew)
              clear hZ
              refine wpAnyH_ready (rs := [2]) (by kernel_rfl) (by simp) (AllReadyH.cons rfl (fun K hK => ?_) AllReadyH.nil)
              have x0 := QdX2_0.out.cell (i := 0) rfl
              have xf0 := QdX2_0.out.free 0
              have x1 := QdX2_0.out.cell (i := 1) rfl
              have xf1 := QdX2_0.out.free 1
              have x2 := QdX2_0.out.cell (i := 2) rfl
              have xf2 := QdX2_0.out.free 2
              have x3 := QdX2_0.out.cell (i := 3) rfl
              have xf3 := QdX2_0.out.free 3
              have x4 := QdX2_0.out.cell (i := 4) rfl
              have xf4 := QdX2_0.out.free 4
              go_simp
              refine hK.out _ _ (((((hHeld.setCell _ _ (.inl (by simp))).setCell _ _ (.inl (by simp))).setCell _ _ (.inl (by simp))).setCell _ _ (.inl (by simp))).setCell _ _ (.inl (by simp))) (fun hHeld => ?_)
              clear hK K x0 xf0 x1 xf1 x2 xf2 x3 xf3 x4 xf4
              try simp only [Act.put, List.setIfInBounds_toArray, List.set_cons_zero, List.set_cons_succ, List.getElem_toArray, List.getElem_cons_succ, List.getElem_cons_zero]
              obtain ⟨Zd1, hZ⟩ : ∃ Z, Z = (((((Zd0.setCell ⟨X2, 0, none⟩ (.string ⟨t1.text.toArray⟩)).setCell ⟨X2, 1, none⟩ (.int .i64 (op : Nat))).setCell ⟨X2, 2, none⟩ (.string ⟨t4.text.toArray⟩)).setCell ⟨X2, 3, none⟩ (.int .i64 0)).setCell ⟨X2, 4, none⟩ (.int .i64 (t1.at_ : Nat))) := ⟨_, rfl⟩
              rw [← hZ] at hHeld ⊢
              have QdX2_1 : Hid (Blk Zd1 X2 [.string ⟨t1.text.toArray⟩, .int .i64 (op : Nat), .string ⟨t4.text.toArray⟩, .int .i64 0, .int .i64 (t1.at_ : Nat)] 48) := Lib.hid (by rw [hZ]; exact (((((QdX2_0.out.set 0 (.string ⟨t1.text.toArray⟩)).set 1 (.int .i64 (op : Nat))).set 2 (.string ⟨t4.text.toArray⟩)).set 3 (.int .i64 0)).set 4 (.int .i64 (t1.at_ : Nat))))
              have QdX3_1 : Hid (Blk Zd1 X3 [.slice none 0 0, .int .i64 0, .int .i64 0, .int .i64 0] 63) := Lib.hid (by rw [hZ]; exact (((((QdX3_0.out.other _ _ NX3_X2).other _ _ NX3_X2).other _ _ NX3_X2).other _ _ NX3_X2).other _ _ NX3_X2))
              clear hZ
              refine wpAnyH_ready (rs := [3]) (by kernel_rfl) (by simp) (AllReadyH.cons rfl (fun K hK => ?_) AllReadyH.nil)
              have x0 := QdX3_1.out.cell (i := 0) rfl
              have xf0 := QdX3_1.out.free 0
              have x1 := QdX3_1.out.cell (i := 1) rfl
              have xf1 := QdX3_1.out.free 1
              have x2 := QdX3_1.out.cell (i := 2) rfl
              have xf2 := QdX3_1.out.free 2
              have x3 := QdX3_1.out.cell (i := 3) rfl
              have xf3 := QdX3_1.out.free 3
              go_simp
              refine hK.out _ _ ((((hHeld.setCell _ _ (.inl (by simp))).setCell _ _ (.inl (by simp))).setCell _ _ (.inl (by simp))).setCell _ _ (.inl (by simp))) (fun hHeld => ?_)
              clear hK K x0 xf0 x1 xf1 x2 xf2 x3 xf3
              try simp only [Act.put, List.setIfInBounds_toArray, List.set_cons_zero, List.set_cons_succ, List.getElem_toArray, List.getElem_cons_succ, List.getElem_cons_zero]
              obtain ⟨Zd2, hZ⟩ : ∃ Z, Z = ((((Zd1.setCell ⟨X3, 0, none⟩ (.slice ao4 s4.l.length cap4)).setCell ⟨X3, 1, none⟩ (.int .i64 (en : Int))).setCell ⟨X3, 2, none⟩ (.int .i64 (s4.err : Int))).setCell ⟨X3, 3, none⟩ (.int .i64 (s4.at_ : Int))) := ⟨_, rfl⟩
              rw [← hZ] at hHeld ⊢
              have QdX2_2 : Hid (Blk Zd2 X2 [.string ⟨t1.text.toArray⟩, .int .i64 (op : Nat), .string ⟨t4.text.toArray⟩, .int .i64 0, .int .i64 (t1.at_ : Nat)] 48) := Lib.hid (by rw [hZ]; exact ((((QdX2_1.out.other _ _ NX2_X3).other _ _ NX2_X3).other _ _ NX2_X3).other _ _ NX2_X3))
              have QdX3_2 : Hid (Blk Zd2 X3 [.slice ao4 s4.l.length cap4, .int .i64 (en : Int), .int .i64 (s4.err : Int), .int .i64 (s4.at_ : Int)] 63) := Lib.hid (by rw [hZ]; exact ((((QdX3_1.out.set 0 (.slice ao4 s4.l.length cap4)).set 1 (.int .i64 (en : Int))).set 2 (.int .i64 (s4.err : Int))).set 3 (.int .i64 (s4.at_ : Int))))
              clear hZ
              refine wpAnyH_done (by kernel_rfl) ?_ _
              try simp only [Act.put, List.setIfInBounds_toArray, List.set_cons_zero, List.set_cons_succ, List.getElem_toArray, List.getElem_cons_succ, List.getElem_cons_zero]
              have HH := Lib.hid hHeld
              clear hHeld
              go_wp2_with fail
              (try simp only [Exit.inBlock, Exit.then])
              refine bodyPost_ret (results_cell_row2 rfl _ _ X2 X3 48 63 #[.string ⟨t1.text.toArray⟩, .int .i64 (op : Nat), .string ⟨t4.text.toArray⟩, .int .i64 0, .int .i64 (t1.at_ : Nat)] #[.slice ao4 s4.l.length cap4, .int .i64 (en : Int), .int .i64 (s4.err : Int), .int .i64 (s4.at_ : Int)] (0, 0) (0, 0) _ _ rfl QdX2_2.out rfl QdX3_2.out Tryd.underlying48 rfl (by kernel_rfl) Tryd.underlying63 rfl (by kernel_rfl)) rfl ?_
              have CF : Hid (Chg [] w Zd2) := Lib.hid (C12.out.trans HH.out (fun k hk => .inr (by have OX1_ := OX1.out; have OX2_ := OX2.out; have OX3_ := OX3.out; have OX4_ := OX4.out; have OX5_ := OX5.out; have OX6_ := OX6.out; have OX8_ := OX8.out; simp only [List.mem_cons, List.not_mem_nil, or_false] at hk; omega)))
              have hs : s.test en = (⟨t1.text, op, t4.text, 0, t1.at_⟩, s4) := HBASE.out ((t4.text, 0), s4) (by
                unfold RSt.rhs
                rw [if_neg (by rw [HB3.out]; simp), HE4.out]
                simp only
                rw [if_neg (by rw [HB5.out]; simp)])
              first | exact ⟨(⟨t1.text, op, t4.text, 0, t1.at_⟩ : Rl.Tst), s4, ao4, cap4, Lib.hid hs, Lib.hid ((HS1.out.trans HS2.out).trans HS4.out), CF, rfl⟩ | exact ⟨(⟨t1.text, op, t4.text, 0, t1.at_⟩ : Rl.Tst), s4, Lib.hid hs, ao4, cap4, Lib.hid ((HS1.out.trans HS2.out).trans HS4.out), CF, rfl⟩
end Go.Proofs.YtmfjebpefneboaaDoor

