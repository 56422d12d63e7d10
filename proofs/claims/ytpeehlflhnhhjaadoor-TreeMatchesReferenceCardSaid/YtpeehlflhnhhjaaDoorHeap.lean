/-
 Own lemmas on worlds, over any program: blocks that are known whole ('Blk'), and what a step leaves alone ('Chg').
-/
import Derived.WalkKit
import Derived.StillTailTactics
import Derived.Laws.CopyOwn
import Derived.Lib.BufferWrite
import Derived.Lib.Hide
namespace Go.Proofs.YtpeehlflhnhhjaaDoor
set_option linter.unusedVariables false
set_option linter.unusedSimpArgs false
open Go Go.RowKit

/-- Block b holds the cells cs of element type e, none of them frozen. -/
def Blk (w : World) (b : Nat) (cs : List Value) (e : TypeId) : Prop := w.heap[b]? = some (.cells cs.toArray e (0, 0))

theorem Blk.lt {w : World} {b : Nat} {cs : List Value} {e : TypeId} (h : Blk w b cs e) : b < w.heap.size :=
 (Array.getElem?_eq_some_iff.1 h).1

theorem Blk.cell {w : World} {b : Nat} {cs : List Value} {e : TypeId} (h : Blk w b cs e) {i : Nat} {v : Value} (hv : cs[i]? = some v) : w.cell? ⟨b, i, none⟩ = some v := by
 unfold Blk at h
 rw [cell_of_row w b i _ e (0, 0) h]
 simpa using hv

theorem Blk.free {w : World} {b : Nat} {cs : List Value} {e : TypeId} (h : Blk w b cs e) (i : Nat) : w.frozen? ⟨b, i, none⟩ = false :=
 frozen_of_row w b i _ e h

theorem Blk.new (w : World) (cs : List Value) (e : TypeId) : Blk (w.alloc (.cells cs.toArray e)) w.heap.size cs e := heap_alloc_new w _

/-- What a step may change: the blocks of 'own', and new ones. -/
structure Chg (own : List Nat) (w w' : World) : Prop where
 os : w'.os = w.os
 tape : w'.tape = w.tape
 output : w'.output = w.output
 size : w.heap.size ≤ w'.heap.size
 block : ∀ k, k < w.heap.size → k ∉ own → w'.heap[k]? = w.heap[k]?

theorem Chg.refl (own : List Nat) (w : World) : Chg own w w := ⟨rfl, rfl, rfl, Nat.le_refl _, fun _ _ _ => rfl⟩

theorem Chg.trans {own own1 : List Nat} {w w1 w2 : World} (h : Chg own w w1) (h1 : Chg own1 w1 w2) (hs : ∀ k ∈ own1, k ∈ own ∨ w.heap.size ≤ k) : Chg own w w2 :=
 ⟨h1.os.trans h.os, h1.tape.trans h.tape, h1.output.trans h.output, Nat.le_trans h.size h1.size, fun k hk hn =>
  (h1.block k (Nat.lt_of_lt_of_le hk h.size) (fun hm => by exact (hs k hm).elim hn (by omega))).trans (h.block k hk hn)⟩

theorem Chg.mono {own own1 : List Nat} {w w' : World} (h : Chg own w w') (hs : ∀ k ∈ own, k ∈ own1) : Chg own1 w w' :=
 ⟨h.os, h.tape, h.output, h.size, fun k hk hn => h.block k hk (fun hm => hn (hs k hm))⟩

theorem Chg.drew {own : List Nat} {w w' : World} (h : Chg own w w') : Chg own w w'.drew := ⟨h.os, h.tape, h.output, h.size, h.block⟩
theorem Chg.ofDrew {own : List Nat} {w w' : World} (h : Chg own w.drew w') : Chg own w w' := ⟨h.os, h.tape, h.output, h.size, h.block⟩

theorem Chg.alloc {own : List Nat} {w w' : World} (h : Chg own w w') (o : Obj) : Chg own w (w'.alloc o) :=
 ⟨h.os, h.tape, h.output, by simp; have := h.size; omega, fun k hk hn => (Below.heap_alloc w' o k (Nat.lt_of_lt_of_le hk h.size)).trans (h.block k hk hn)⟩

theorem Chg.setCell {own : List Nat} {w w' : World} (h : Chg own w w') (a : Addr) (v : Value) (ha : a.block ∈ own ∨ w.heap.size ≤ a.block) : Chg own w (w'.setCell a v) :=
 ⟨h.os, h.tape, h.output, by simp; exact h.size, fun k hk hn => (heap_setCell_other w' a k v (fun e => by subst e; exact ha.elim hn (by omega))).trans (h.block k hk hn)⟩

theorem Chg.setRow {own : List Nat} {w w' : World} (h : Chg own w w') (g : Nat) (cs : Array Value) (ha : g ∈ own ∨ w.heap.size ≤ g) : Chg own w (w'.setRow g cs) :=
 ⟨h.os, h.tape, h.output, by simp; exact h.size, fun k hk hn => (setRow_other w' g k cs (fun e => by subst e; exact ha.elim hn (by omega))).trans (h.block k hk hn)⟩

theorem Chg.grown {own : List Nat} {w w1 w' : World} {row : Option Nat} (h : Chg own w w1) (hg : w1.grownBy w' row) (hr : ∀ k, row = some k → k ∈ own ∨ w.heap.size ≤ k) : Chg own w w' :=
 ⟨hg.os.trans h.os, hg.tape.trans h.tape, hg.output.trans h.output, Nat.le_trans h.size hg.size, fun k hk hn =>
  (hg.block k (Nat.lt_of_lt_of_le hk h.size) (fun e => by exact (hr k e.symm).elim hn (by omega))).trans (h.block k hk hn)⟩

theorem Chg.below {own : List Nat} {w w' : World} (h : Chg own w w') {B : Nat} (hB : B ≤ w.heap.size) (ho : ∀ k ∈ own, B ≤ k) : Below B w w' :=
 ⟨h.os, h.tape, h.output, h.size, fun k hk => h.block k (by omega) (fun hm => by have := ho k hm; omega)⟩

theorem Chg.blk {own : List Nat} {w w' : World} (h : Chg own w w') {b : Nat} {cs : List Value} {e : TypeId} (hb : Blk w b cs e) (hn : b ∉ own) : Blk w' b cs e :=
 (h.block b hb.lt hn).trans hb

theorem Blk.alloc {w : World} {b : Nat} {cs : List Value} {e : TypeId} (h : Blk w b cs e) (o : Obj) : Blk (w.alloc o) b cs e :=
 (Below.heap_alloc w o b h.lt).trans h
theorem Blk.drew {w : World} {b : Nat} {cs : List Value} {e : TypeId} (h : Blk w b cs e) : Blk w.drew b cs e := h
theorem Blk.other {w : World} {b : Nat} {cs : List Value} {e : TypeId} (h : Blk w b cs e) (a : Addr) (v : Value) (hn : b ≠ a.block) : Blk (w.setCell a v) b cs e :=
 (heap_setCell_other w a b v hn).trans h
theorem Blk.set {w : World} {b : Nat} {cs : List Value} {e : TypeId} (h : Blk w b cs e) (i : Nat) (v : Value) : Blk (w.setCell ⟨b, i, none⟩ v) b (cs.set i v) e := by
 unfold Blk
 rw [heap_setCell_same w b i _ e v h]
 simp
theorem Blk.setRow {w : World} {b : Nat} {cs : List Value} {e : TypeId} (h : Blk w b cs e) (cs' : List Value) : Blk (w.setRow b cs'.toArray) b cs' e :=
 setRow_heap w b _ cs'.toArray e _ h
theorem Blk.setRowOther {w : World} {b : Nat} {cs : List Value} {e : TypeId} (h : Blk w b cs e) (g : Nat) (cs' : Array Value) (hn : b ≠ g) : Blk (w.setRow g cs') b cs e :=
 (setRow_other w g b cs' hn).trans h
theorem Blk.same {w : World} {b : Nat} {cs cs' : List Value} {e e' : TypeId} (h : Blk w b cs e) (h' : Blk w b cs' e') : cs = cs' := by
 unfold Blk at h h'
 have := h.symm.trans h'
 simp at this
 exact this.1

/-- A region that draws its order, whose first n operations only read and whose others come in one forced order behind them. -/
theorem wp_region_tail {P : Program} {id : Nat} {Q : Exit → Act → World → Prop} {a : Act} {w : World} {l : List Oper} (n : Nat) (hm : P.follows .mixedOrders = true) (hB : Region.lexTailB .any l.toArray n = true)
 (h : ∀ L : Act → Prop, (∀ a', wpList P l.toArray Q (l.drop n) a' w.drew → L a') → wpStill P l.toArray w.drew L (l.take n) a) : (Code.region id l.toArray true).wp P Q a w :=
 wp_region_still_tail n hm hB (h _ fun _ h => h)

theorem addr_add (b o j : Nat) : (⟨b, o, none⟩ : Addr).add j = ⟨b, o + j, none⟩ := by unfold Addr.add; split <;> simp_all

theorem vint {k : IntKind} {a b : Int} (h : a = b) : Value.int k a = Value.int k b := by rw [h]
theorem ite_max0 (x : Int) : (if x < 0 then (0 : Int) else x) = max x 0 := by split <;> omega

abbrev Bytes' := List UInt8

/-- A byte as a value. -/
def B8 (x : UInt8) : Value := .int .u8 x.toNat
theorem B8_one (l : List UInt8) : ∀ v ∈ l.map B8, v.oneCell' = true := by
 intro v hv
 obtain ⟨b, _, rfl⟩ := List.mem_map.1 hv
 rfl

/-- 'copy(dst, src)' into a block that is known whole, out of cells that are known. -/
theorem wpList_copy_blk {P : Program} {w : World} {ops : Array Oper} {rest : List Oper} {o : Oper} {a : Act} {Q : Exit → Act → World → Prop} (hgd : o.guard = none) (d s : Operand) (dT sT : TypeId)
 (ho : o.op = .call { callee := .builtin .copy, args := #[d, s], argTypes := #[dT, sT] }) (elem : TypeId) (hu : P.underlying dT = some (.slice elem)) (hsz : (P.info? elem).map (·.size) = some 1)
 (g off dLen dCap : Nat) (ad : Addr) (sLen sCap : Nat) (hd : a.eval d = .slice (some ⟨g, off, none⟩) dLen dCap) (hs : a.eval s = .slice (some ad) sLen sCap)
 {cur : List Value} {t : TypeId} (hg : Blk w g cur t) (cs : List Value) (hn : cs.length = Nat.min sLen dLen)
 (hsrc : ∀ j v, cs[j]? = some v → w.cell? (ad.add j) = some v) (hfit : off + cs.length ≤ cur.length) (h1 : ∀ v ∈ cs, v.oneCell' = true)
 (h : ∀ w', Blk w' g (splice cur off cs) t → Chg [g] w w' → wpList P ops Q rest (a.put o.dst (goInt cs.length)) w') : wpList P ops Q (o :: rest) a w :=
 wpList_copy_own hgd d s dT sT ho elem hu hsz g off dLen dCap ad sLen sCap hd hs cur.toArray t hg cs hn hsrc (by simpa using hfit) h1
  (h _ (by simpa [splice] using Blk.setRow hg (cur.take off ++ (cs ++ cur.drop (off + cs.length)))) ((Chg.refl _ _).setRow g _ (.inl (by simp))))

/-- 'copy(dst, s)', s a string that fits. -/
theorem wpList_copy_str {P : Program} {w : World} {ops : Array Oper} {rest : List Oper} {o : Oper} {a : Act} {Q : Exit → Act → World → Prop} (hgd : o.guard = none) (d s : Operand) (dT sT : TypeId)
 (ho : o.op = .call { callee := .builtin .copy, args := #[d, s], argTypes := #[dT, sT] }) (elem : TypeId) (hu : P.underlying dT = some (.slice elem)) (hsz : (P.info? elem).map (·.size) = some 1)
 (g off dLen dCap : Nat) (x : ByteArray) (hd : a.eval d = .slice (some ⟨g, off, none⟩) dLen dCap) (hs : a.eval s = .string x)
 {cur : List Value} {t : TypeId} (hg : Blk w g cur t) (hle : x.size ≤ dLen) (hfit : off + x.size ≤ cur.length)
 (h : ∀ w', Blk w' g (splice cur off (x.data.toList.map B8)) t → Chg [g] w w' → wpList P ops Q rest (a.put o.dst (goInt x.size)) w') : wpList P ops Q (o :: rest) a w := by
 refine wpList_plain hgd fun K hK => ?_
 have hrun := Lib.run_copy_row_string (P := P) w dT sT o.type elem g off dLen dCap x cur.toArray t hu hsz hg hle (by simpa using hfit)
 unfold Oper.wp
 simp [execOp, ho, resolve, invoke, builtin, hd, hs, hrun, Result.andThen]
 refine hK _ _ (h _ ?_ ((Chg.refl _ _).setRow g _ (.inl (by simp))))
 have := Blk.setRow hg (splice cur off (x.data.toList.map B8))
 rw [show Lib.byteCells x.data.toList = x.data.toList.map B8 from rfl]
 simpa [splice, ← Lib.size_eq] using this

/-- A region that draws its order and only reads. -/
theorem wp_region_reads {P : Program} {id : Nat} {Q : Exit → Act → World → Prop} {a : Act} {w : World} {l : List Oper} (hm : P.follows .mixedOrders = true) (hB : Region.lexB .any l.toArray = true)
 (h : ∀ L : Act → Prop, (∀ a', Q .normal a' w.drew → L a') → wpStill P l.toArray w.drew L l a) : (Code.region id l.toArray true).wp P Q a w :=
 wp_region_still_lit hm hB (h _ fun _ h => h)

/-- 'string(b)' of a part of a block of bytes. -/
theorem run_bytes_of {P : Program} {w : World} {b o n c : Nat} {cs : List Value} {e : TypeId} {l : Bytes'} (hb : Blk w b cs e) (hl : l.length = n) (hc : ∀ j, j < n → cs[o + j]? = (l.map B8)[j]?) :
 (Conv.bytesToString (.slice (some ⟨b, o, none⟩) n c)).run P w = .ok (.string ⟨l.toArray⟩) w := by
 have h1 : (loadCells ⟨b, o, none⟩ n).run P w = .ok ((l.map fun x => (x.toNat : Int)).map (Value.int .u8)).toArray w := by
  have := run_loadCells_list (P := P) w ⟨b, o, none⟩ (l.map B8) (fun j v hj => by
   have hjl := (List.getElem?_eq_some_iff.1 hj).1
   rw [addr_add]
   exact hb.cell ((hc j (by simpa [hl] using hjl)).trans hj))
  rw [List.length_map, hl] at this
  rw [this, List.map_map]
  rfl
 rw [run_bytesToString w _ n c _ h1, foldl_push_bytes]
 have e2 : ((l.map fun x => (x.toNat : Int)).map fun n => UInt8.ofNat n.toNat) = l := by
  rw [List.map_map]
  conv => rhs; rw [← List.map_id l]
  exact List.map_congr_left (fun x _ => by simp)
 rw [e2]
 show Result.ok (Value.string ⟨#[] ++ l.toArray⟩) w = _
 rw [Array.empty_append]

theorem cell_quiet {w w' : World} {own : List Nat} (hc : Chg own w w') {a : Addr} {v : Value} (h : w.cell? a = some v) (hn : a.block ∉ own) : w'.cell? a = some v :=
 (World.cell?_of_block (hc.block a.block (World.block_lt_of_cell? _ _ h) hn)).trans h
theorem sb_get {s : List UInt8} {sb : ByteArray} (HSB : Hid (sb = ⟨s.toArray⟩)) {k : Nat} (h : k < sb.size) (h' : k < s.length) : sb[k] = s[k] := by
 have := HSB.out
 subst this
 show s.toArray[k]'_ = _
 simp
end Go.Proofs.YtpeehlflhnhhjaaDoor
