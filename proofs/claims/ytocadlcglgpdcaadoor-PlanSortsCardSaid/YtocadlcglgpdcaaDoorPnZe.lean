/-
  Plan, layer 27: lists of texts.
-/
import Derived.Test.YtocadlcglgpdcaaDoorPnZb
import Derived.Test.YtocadlcglgpdcaaDoorPnZd
namespace Go.Proofs.YtocadlcglgpdcaaDoor
set_option linter.unusedVariables false
set_option linter.unusedSimpArgs false
open Go Go.RowKit Go.Shelf
open Lx (Tk)
/-- A list of texts that can be read in world w. -/
def Strs (w : World) (v : Value) (l : List Bytes) : Prop :=
  ∃ ao cap, v = .slice ao l.length cap ∧ l.length ≤ cap ∧ ∀ (i : Nat) (x : Bytes), l[i]? = some x → ∃ g off, ao = some ⟨g, off, none⟩ ∧ w.cell? ⟨g, off + i, none⟩ = some (.string ⟨x.toArray⟩)
theorem Strs.quiet {w w' : World} {v : Value} {l : List Bytes} (h : Strs w v l) (hc : Chg [] w w') : Strs w' v l := by
  obtain ⟨ao, cap, rfl, hle, h2⟩ := h
  refine ⟨ao, cap, rfl, hle, fun i x hx => ?_⟩
  obtain ⟨g, off, rfl, h3⟩ := h2 i x hx
  exact ⟨g, off, rfl, (World.cell?_of_block (hc.block g (World.block_lt_of_cell? _ _ h3) (by simp))).trans h3⟩
theorem Strs.nil (w : World) : Strs w (.slice none 0 0) [] := ⟨none, 0, rfl, Nat.le_refl _, fun i x hx => by simp at hx⟩
def Small (l : List Bytes) : Prop := l.length ≤ 9223372036854775807 ∧ ∀ x ∈ l, x.length ≤ 9223372036854775807
/-- A text in a list of texts of its own. -/
def Cst (x : Bytes) (cs : List Value) (w : World) : Prop := cs = [.string ⟨x.toArray⟩]
theorem kp_st (B : Nat) : Kp B [] Cst := fun own w w' a cs hc ho h => h
theorem str_get {B : Nat} {w : World} {l : List Bytes} {v : Value} (h : ListS B 9 1 Cst l v w) {i : Nat} {x : Bytes} (hx : l[i]? = some x) : ∃ g cap, v = .slice (some ⟨g, 0, none⟩) l.length cap ∧ l.length ≤ cap ∧ w.cell? ⟨g, i, none⟩ = some (.string ⟨x.toArray⟩) := by
  obtain ⟨g, cap, cs, rfl, hcap, hB, hlen, hC, hg, -⟩ := h.get hx
  cases hC
  have := hg 0 _ rfl
  exact ⟨g, cap, rfl, hcap, by simpa using this⟩
theorem info_str : (Tryd.prog.info? 9).map (fun i => (i.zero, i.size, i.bytes)) = some (some (.string ⟨#[]⟩), 1, 16) := by kernel_rfl
theorem wpList_snoc2 {P : Program} {w : World} {ops : Array Oper} {rest : List Oper} {o : Oper} {a : Act} {Q : Exit → Act → World → Prop} (hgd : o.guard = none) (s x : Operand) (t : TypeId)
    (ho : o.op = .call { callee := .builtin .append, args := #[s, x], argTypes := #[t, t] })
    (e : TypeId) (i : TypeInfo) (z : Value) (size bytes : Nat) (ht : P.underlying t = some (.slice e)) (hi : P.info? e = some i) (hz : i.zero = some z)
    (hsize : i.size = size) (hby : i.bytes = bytes) (hzs : z.cells.size = size) (hsz : 0 < size)
    {α : Type} {C : α → List Value → World → Prop} {B : Nat} {Es : List TypeId} {l : List α} (v : Value) (n : Nat) (hs : a.eval s = v) (HL : ListS B e size C l v w) (hln : l.length = n) (hK : Kp B Es C) (hE : e ∉ Es)
    (el : α) (cs : List Value) (hC : C el cs w) (hlen : cs.length = size) (hone : ∀ u ∈ cs, u.oneCell' = true) (g : Nat) (hx : a.eval x = .slice (some ⟨g, 0, none⟩) 1 1) (hb : Blk w g cs e)
    (h63 : n + 1 ≤ maxLen) (hbytes : (n + 1) * bytes ≤ 140737488355328) (hbase : B ≤ w.heap.size)
    (h : ∀ g' cap w', ListS B e size C (l ++ [el]) (.slice (some ⟨g', 0, none⟩) (n + 1) cap) w' → w.grownBy w' v.ownBlock → (v.ownBlock = some g' ∨ g' = w.heap.size) → g' < w'.heap.size → wpList P ops Q rest (a.put o.dst (.slice (some ⟨g', 0, none⟩) (n + 1) cap)) w') :
    wpList P ops Q (o :: rest) a w := by
  obtain ⟨css, h1, h2, h3⟩ := HL
  rw [hln] at h3
  refine wpList_append_lies w hgd s x t ho B e i z size bytes ht hi hz hsize hby hzs hsz v n css.flatten hs h3 ⟨g, 0, none⟩ 1 1 cs hx (by rw [hlen, Nat.one_mul]) (fun j u hj => by rw [addr_add, Nat.zero_add]; exact hb.cell hj) hone (by omega) h63 hbytes hbase _ rfl fun g' cap' w' h4 h5 h6 h7 => ?_
  exact h g' cap' w' (ListS.snoc h1 h2 (by rw [hln]; exact h3) hK hE hlen hC h5 (by rw [hln]; exact h4)) h5 h6 h7
/-- The blocks of two lists are not the same. -/
def Apart2 (u v : Value) : Prop := ∀ k, u.ownBlock = some k → v.ownBlock ≠ some k
/-- Behind an append to one of two lists of texts the other stays, and they stay apart. -/
theorem two_lists {B : Nat} {l m : List Bytes} {u v u' : Value} {w w' : World} {n g' cap : Nat} (hu : ListS B 9 1 Cst l u w) (hv : ListS B 9 1 Cst m v w) (ha : Apart2 u v) (hg : w.grownBy w' u.ownBlock) (h6 : u.ownBlock = some g' ∨ g' = w.heap.size) (he : u' = .slice (some ⟨g', 0, none⟩) n cap) : ListS B 9 1 Cst m v w' ∧ Apart2 u' v := by
  obtain ⟨css, h1, h2, h3⟩ := hu
  refine ⟨hv.grown (kp_st B) hg h3 (by simp) (.inr fun k hk hk2 => ha k hk2 hk), fun k hk hk2 => ?_⟩
  rw [he] at hk
  have hk : g' = k := by simpa [Value.ownBlock] using hk
  subst hk
  rcases h6 with h6 | h6
  · exact ha _ h6 hk2
  · have := hv.below _ hk2
    omega
end Go.Proofs.YtocadlcglgpdcaaDoor
