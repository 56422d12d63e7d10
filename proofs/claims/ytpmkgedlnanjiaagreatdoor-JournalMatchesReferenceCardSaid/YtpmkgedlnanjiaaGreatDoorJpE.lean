/-
  Journal: lists of texts are appended to a list of the call's own.
-/
import Derived.Test.YtpmkgedlnanjiaaGreatDoorJpC
import Derived.Deep.AppendSrc
namespace Go.Proofs.YtpmkgedlnanjiaaGreatDoor
set_option linter.unusedVariables false
set_option linter.unusedSimpArgs false
set_option maxRecDepth 100000
open Go Go.RowKit Go.Shelf
namespace Jn
theorem open_few (sm : Bytes → Bytes) {n : Nat} (h : n < 3) : openJ sm (DK.new n) = ((1, none), DK.new n) := by
  unfold openJ
  rw [if_neg (show ¬ (DK.new n).off = true by show ¬ false = true; decide), if_pos (show (DK.new n).n < 3 from h)]
theorem text_small {l : List Bytes} (h : l.length ≤ 20) (hx : ∀ x ∈ l, x.length ≤ 6000) : (text l).length ≤ 900000 := by
  have h1 : ∀ m : List Bytes, (∀ x ∈ m, x.length ≤ 6000) → (text m).length ≤ m.length * 6022 := fun m => by
    induction m with
    | nil => intro _; exact Nat.le_refl _
    | cons x m ih =>
      intro hm
      have h2 := hm x (List.mem_cons_self ..)
      have h3 := ih (fun y hy => hm y (List.mem_cons_of_mem _ hy))
      have h4 := Lib.itoa_length_le (x.length : Int) (by omega) (by omega)
      rw [text_cons, List.length_append, List.length_cons, List.length_append, List.length_cons]
      omega
  have := h1 l hx
  omega
end Jn
theorem vint9 {a b : Int} (h : a = b) : (Value.int .i64 a) = .int .i64 b := by rw [h]
theorem own_none44 {w : World} {g : Nat} (h : Blk w g [] 9) {B : Nat} (hB : B ≤ g) : OwT B [] (.slice (some ⟨g, 0, none⟩) 0 0) w :=
  ⟨by simp, .inr ⟨g, 0, #[], rfl, hB, h, Nat.le_refl _, by simp [maxLen], by simp, by simp⟩⟩
theorem run_app_none (w : World) (xo : Option Addr) (xc : Nat) (ty : TypeId) : (Builtin.append_ #[26, 26] ty #[.slice none 0 0, .slice xo 0 xc]).run Tryz.prog w = .ok (.slice none 0 0) w := by
  obtain ⟨ims, i1, i2, i3, i4⟩ := info_str44
  cases xo <;> simp [Builtin.append_, run_underlying Tryz.underlying26, sizeOf, typeInfo, i1, Builtin.lenOf, Builtin.firstCells, go_sem]
theorem wp_strs {w : World} {o : Oper} {a : Act} {K : Act → World → Prop} {Q : Exit → Act → World → Prop} (s x : Operand)
    (ho : o.op = .call { callee := .builtin .append, args := #[s, x], argTypes := #[26, 26] }) (B : Nat) (l : List Bytes) (v : Value) (hs : a.eval s = v) (hown : OwT B l v w) (ys : List Bytes) (xv : Value) (hx : a.eval x = xv) (HX : Strs w xv ys)
    (hsz : l.length + ys.length ≤ 1000000) (hbase : B ≤ w.heap.size)
    (h : ∀ v' w', OwT B (l ++ ys) v' w' → Chg v.ownBlock.toList w w' → (∀ k, v'.ownBlock = some k → v.ownBlock = some k ∨ w.heap.size ≤ k) → K (a.put o.dst v') w') :
    Oper.wp Tryz.prog o a w K Q := by
  obtain ⟨ims, i1, i2, i3, i4⟩ := info_str44
  obtain ⟨ao, cap, rfl, hle, hv⟩ := HX
  by_cases hys : ys = []
  · subst hys
    have hsrc : Src Tryz.prog ims.size 26 (.slice ao 0 cap) 0 [] w := by
      cases ao with
      | none => exact Src.ofNil w Tryz.underlying26 cap
      | some ad => exact Src.ofSlice w Tryz.underlying26 ad 0 cap [] (by simp) (fun j u hj => by simp at hj) (fun u hu => by simp at hu)
    have hrun : (Builtin.append_ #[26, 26] o.type #[v, .slice ao 0 cap]).run Tryz.prog w = .ok v w := by
      rcases hown.2 with ⟨rfl, hl0⟩ | ⟨g, c, cur, rfl, hB, hg, hle2, hm, hsz2, ht⟩
      · exact run_app_none w ao cap o.type
      · have h1 := run_append_room_src (P := Tryz.prog) w 26 26 o.type 9 ims Tryz.underlying26 i1 g 0 l.length c (.slice ao 0 cap) 0 [] hsrc (by simpa using hle2) (fun j hj => by simp at hj) (fun j hj => by simp at hj)
        rw [h1]
        simp [World.setCells]
    have hfin := h v w (by rw [List.append_nil]; exact hown) (Chg.refl _ _) (fun k hk => .inl hk)
    unfold Oper.wp execOp
    simp only [List.length_nil] at hx
    simp only [ho, resolve, invoke, builtin, Sem.run_bind, Sem.run_pure, Result.andThen_ok, List.map_toArray, List.map_cons, List.map_nil, hs, hx, hrun]
    exact hfin
  · obtain ⟨y, hy⟩ : ∃ y, ys[0]? = some y := ⟨ys[0]'(List.length_pos_iff.2 hys), by simp⟩
    obtain ⟨g, off, rfl, _⟩ := hv 0 y hy
    have hp : 0 < ys.length := List.length_pos_iff.2 hys
    refine wp_append_lies w s x 26 ho B 9 ims (.string ⟨#[]⟩) 1 16 Tryz.underlying26 i1 i2 i3 i4 rfl (by decide) v l.length (l.map vstr) hs hown ⟨g, off, none⟩ ys.length cap (ys.map vstr) hx (by simp) (fun j u hj => ?_) (fun u hu => ?_) hp (by unfold maxLen; omega) (by omega) hbase w.heap.size rfl (fun g9 cap9 w9 h1 h2 h3 h4 => ?_)
    · rw [List.getElem?_map] at hj
      cases hz : ys[j]? with
      | none => rw [hz] at hj; cases hj
      | some z =>
        rw [hz] at hj
        injection hj with hj
        subst hj
        obtain ⟨g2, off2, he, hc⟩ := hv j z hz
        cases he
        rw [addr_add]
        exact hc
    · obtain ⟨z, _, rfl⟩ := List.mem_map.1 hu
      rfl
    · refine h _ w9 ?_ ((Chg.refl v.ownBlock.toList w).grown h2 (fun k hk => .inl (by rw [Option.mem_toList]; exact hk))) (fun k hk => ?_)
      · unfold OwT
        rw [List.length_append, List.map_append]
        exact h1
      · have e : g9 = k := by simpa [Value.ownBlock] using hk
        subst e
        exact h3.imp id (fun e => by rw [e]; exact Nat.le_refl _)
theorem wpList_strs {w : World} {ops : Array Oper} {rest : List Oper} {o : Oper} {a : Act} {Q : Exit → Act → World → Prop} (hgd : o.guard = none) (s x : Operand)
    (ho : o.op = .call { callee := .builtin .append, args := #[s, x], argTypes := #[26, 26] }) (B : Nat) (l : List Bytes) (v : Value) (hs : a.eval s = v) (hown : OwT B l v w) (ys : List Bytes) (xv : Value) (hx : a.eval x = xv) (HX : Strs w xv ys)
    (hsz : l.length + ys.length ≤ 1000000) (hbase : B ≤ w.heap.size)
    (h : ∀ v' w', OwT B (l ++ ys) v' w' → Chg v.ownBlock.toList w w' → (∀ k, v'.ownBlock = some k → v.ownBlock = some k ∨ w.heap.size ≤ k) → wpList Tryz.prog ops Q rest (a.put o.dst v') w') :
    wpList Tryz.prog ops Q (o :: rest) a w :=
  wpList_plain hgd fun _ hK => wp_strs s x ho B l v hs hown ys xv hx HX hsz hbase (fun v' w' h1 h2 h3 => hK _ _ (h v' w' h1 h2 h3))
theorem step_strs {w : World} {ops : Array Oper} {o : Oper} {a : Act} {K : Act → World → Prop} {Q : Exit → Act → World → Prop} {E : Prop} (hgd : o.guard = none) (s x : Operand)
    (ho : o.op = .call { callee := .builtin .append, args := #[s, x], argTypes := #[26, 26] }) (B : Nat) (l : List Bytes) (v : Value) (hs : a.eval s = v) (hown : OwT B l v w) (ys : List Bytes) (xv : Value) (hx : a.eval x = xv) (HX : Strs w xv ys)
    (hsz : l.length + ys.length ≤ 1000000) (hbase : B ≤ w.heap.size)
    (h : ∀ v' w', OwT B (l ++ ys) v' w' → Chg v.ownBlock.toList w w' → (∀ k, v'.ownBlock = some k → v.ownBlock = some k ∨ w.heap.size ≤ k) → K (a.put o.dst v') w') :
    if Region.wanted o (yielded ops a.tmps) = true then Oper.wp Tryz.prog o a w K Q else E := by
  have hw : Region.wanted o (yielded ops a.tmps) = true := by simp [Region.wanted, hgd]
  rw [if_pos hw]
  exact wp_strs s x ho B l v hs hown ys xv hx HX hsz hbase h
/-- .. beside a zone: nothing of the zone changes. -/
theorem Own.grown {B : Nat} {A : List Nat} {w w' : World} {v v' : Value} {l m : List Bytes} (h : Own B A w v l) (hA : ∀ k ∈ A, k < w.heap.size) (h1 : OwT B m v' w') (h3 : ∀ k, v'.ownBlock = some k → v.ownBlock = some k ∨ w.heap.size ≤ k) : Own B A w' v' m :=
  ⟨h1, fun k hk hm => by rcases h3 k hk with h4 | h4; exact h.2 k h4 hm; (have := hA k hm; omega)⟩
theorem JZ.low {B B' : Nat} {w : World} {A : List Nat} {p b : Nat} {D : DK} {j : Jn.J} {v : Value} (h : JZ B' w A p b D j v) (hb : B ≤ B') : JZ B w A p b D j v := by
  obtain ⟨own, rfl, h1⟩ := h
  exact ⟨own, rfl, h1.dk, h1.jr.less hb, h1.bn, h1.vn⟩
/-- What a list of the call's own does to what lies beside it. -/
theorem JZ.grown {B : Nat} {w w' : World} {A : List Nat} {p b : Nat} {D : DK} {j : Jn.J} {v u : Value} {l : List Bytes} (h : JZ B w A p b D j v) (ho : Own B A w u l) (hc : Chg u.ownBlock.toList w w') : JZ B w' A p b D j v := by
  obtain ⟨own, rfl, h1⟩ := h
  have hn : ∀ k ∈ u.ownBlock.toList, k ∉ zone own b v := fun k hk => ho.2 k (Option.mem_toList.1 hk)
  exact ⟨own, rfl, h1.dk.kept hc (fun k hk hm => hn k hm (mem_zone.2 (.inr (.inr hk)))), h1.jr.quiet hc (fun hm => hn b hm (mem_zone.2 (.inl rfl))) (fun k hk hm => hn k hm (mem_zone.2 (.inr (.inl hk)))), h1.bn, h1.vn⟩
theorem Base.grown {w0 w w' : World} {A : List Nat} {u : Value} {l : List Bytes} (h : Base w0 w A) (ho : OwT w0.heap.size l u w) (hc : Chg u.ownBlock.toList w w') : Base w0 w' A :=
  ⟨h.chg.trans hc (fun k hk => .inr (ho.ge k (Option.mem_toList.1 hk)).1), h.ge, h.laid⟩
end Go.Proofs.YtpmkgedlnanjiaaGreatDoor
