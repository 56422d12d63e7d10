/-
  Journal: pieces and records of a text.
-/
import Derived.Test.YtpmkgedlnanjiaaGreatDoorJoA
import Derived.Test.YtpmkgedlnanjiaaGreatDoorJnD
import Derived.Deep.AppendLies
namespace Go.Proofs.YtpmkgedlnanjiaaGreatDoor
set_option linter.unusedVariables false
set_option linter.unusedSimpArgs false
set_option maxRecDepth 100000
open Go Go.RowKit
theorem info_str44 : ∃ i, Tryz.prog.info? 9 = some i ∧ i.zero = some (.string ⟨#[]⟩) ∧ i.size = 1 ∧ i.bytes = 16 := by
  have h : (Tryz.prog.info? 9).map (fun i => (i.zero, i.size, i.bytes)) = some (some (.string ⟨#[]⟩), 1, 16) := by kernel_rfl
  cases hi : Tryz.prog.info? 9 with
  | none => rw [hi] at h; cases h
  | some i =>
    rw [hi] at h
    simp only [Option.map_some, Option.some.injEq, Prod.mk.injEq] at h
    exact ⟨i, rfl, h⟩
/-- A list of texts in a row of its own. -/
def OwT (B : Nat) (l : List Bytes) (v : Value) (w : World) : Prop := w.ownsRow B 9 1 v l.length (l.map vstr)
theorem OwT.nil (B : Nat) (w : World) : OwT B [] (.slice none 0 0) w := ⟨by simp, .inl ⟨rfl, rfl⟩⟩
theorem OwT.form {B : Nat} {l : List Bytes} {v : Value} {w : World} (h : OwT B l v w) : ∃ ao cap, v = .slice ao l.length cap := by
  rcases h.2 with ⟨rfl, h0⟩ | ⟨g, cap, cur, rfl, _⟩
  · exact ⟨none, 0, by rw [h0]⟩
  · exact ⟨_, _, rfl⟩
theorem OwT.keep {B : Nat} {l : List Bytes} {v : Value} {own : List Nat} {w w' : World} (h : OwT B l v w) (hc : Chg own w w') (hn : ∀ k, v.ownBlock = some k → k ∉ own) : OwT B l v w' := by
  refine ⟨h.1, ?_⟩
  rcases h.2 with h0 | ⟨g, cap, cur, rfl, hb, hg, rest⟩
  · exact .inl h0
  · exact .inr ⟨g, cap, cur, rfl, hb, (hc.block g (Array.getElem?_eq_some_iff.1 hg).1 (hn g rfl)).trans hg, rest⟩
theorem OwT.ge {B : Nat} {l : List Bytes} {v : Value} {w : World} (h : OwT B l v w) : ∀ k, v.ownBlock = some k → B ≤ k ∧ k < w.heap.size := fun k hk => by
  rcases h.2 with ⟨rfl, _⟩ | ⟨g, cap, cur, rfl, hb, hg, _⟩
  · simp [Value.ownBlock] at hk
  · simp only [Value.ownBlock, Option.some.injEq] at hk
    subst hk
    exact ⟨hb, (Array.getElem?_eq_some_iff.1 hg).1⟩
/-- It can be read. -/
theorem OwT.strs {B : Nat} {l : List Bytes} {v : Value} {w : World} (h : OwT B l v w) : Strs w v l := by
  rcases h.2 with ⟨rfl, h0⟩ | ⟨g, cap, cur, rfl, hB, hg, hle, hm, hsz, ht⟩
  · have : l = [] := List.eq_nil_of_length_eq_zero h0
    subst this
    exact Strs.nil w
  · refine ⟨_, cap, rfl, hle, fun i x hx => ⟨g, 0, rfl, ?_⟩⟩
    have hi := (List.getElem?_eq_some_iff.1 hx).1
    have := World.ownsRow.cellAt h i (by omega)
    rw [Nat.zero_add, this, List.getElem?_map, hx]
    rfl
def sLen : Value → Nat
  | .string b => b.size
  | _ => 0
theorem cutTo44 {s : Bytes} {sb : ByteArray} (HSB : Hid (sb = ⟨s.toArray⟩)) (i : Nat) : sb.extract 0 i = ⟨(s.take i).toArray⟩ := by
  rw [HSB.out]
  apply ByteArray.ext
  simp
theorem cutFrom44 {s : Bytes} {sb : ByteArray} (HSB : Hid (sb = ⟨s.toArray⟩)) (i n : Nat) (h : s.length ≤ n) : sb.extract i n = ⟨(s.drop i).toArray⟩ := by
  rw [HSB.out]
  apply ByteArray.ext
  simp
  exact List.take_of_length_le (by rw [List.length_drop]; omega)
set_option maxHeartbeats 4000000 in
theorem split_r {w : World} (s : Bytes) (hs : s.length ≤ 1000000) {R : Ending → World → Prop} (h : ∀ v w', OwT w.heap.size (Jn.pieces s) v w' → Chg [] w w' → R (.returned v) w') :
    Calls Tryz.prog 47 #[.string ⟨s.toArray⟩] w R := by
  have HRR := Lib.hid h
  clear h
  obtain ⟨ims, hi⟩ := info_str44
  have HIM := Lib.hid hi
  clear hi
  obtain ⟨B, hB⟩ : ∃ B, B = w.heap.size := ⟨_, rfl⟩
  have HBB := Lib.hid hB
  rw [← hB] at HRR
  clear hB
  go_enter Tryz.func47, Tryz.ntmps47
  go_wp2_with fail
  go_loopw [0, 3] (fun sv vv wr => ∃ (r : Bytes) (ps : List Bytes) (v : Value), sv = .string ⟨r.toArray⟩ ∧ vv = v ∧ Hid (OwT B ps v wr) ∧ Hid (Chg [] w wr) ∧ Hid (Jn.pieces s = ps ++ Jn.pieces r) ∧ ps.length + r.length ≤ 1000000) (fun sv _ _ => sLen sv)
  case atStart => exact ⟨s, [], .slice none 0 0, rfl, rfl, Lib.hid (OwT.nil _ _), Lib.hid (Chg.refl _ _), Lib.hid (List.nil_append _).symm, by simpa using hs⟩
  case round =>
    obtain ⟨r, ps, vv, rfl, rfl, HO, HC, HP, hl⟩ := hrel
    by_cases hr : r = []
    · subst hr
      go_wp2_with fail
      refine HRR.out _ wr ?_ HC.out
      have h9 := HP.out
      rw [Jn.pieces_nil, List.append_nil] at h9
      rw [h9]
      exact HO.out
    · obtain ⟨vo, vc, rfl⟩ := HO.out.form
      obtain ⟨n, hn⟩ : ∃ n, n = r.length := ⟨_, rfl⟩
      obtain ⟨p, hp⟩ : ∃ p, p = ps.length := ⟨_, rfl⟩
      rw [← hn, ← hp] at hl
      have HN := Lib.hid hn
      have HPN := Lib.hid hp
      have hn0 : 0 < n := by rw [hn]; exact List.length_pos_iff.2 hr
      have he : r.isEmpty = false := by cases r with | nil => exact absurd rfl hr | cons a r => rfl
      have HSTEP := Lib.hid (Jn.pieces_cons hr)
      clear hr
      obtain ⟨m, hm⟩ : ∃ m : Nat, m = min 46 n := ⟨_, rfl⟩
      have hmn : min 46 (n : Int) = (m : Int) := by omega
      have HM := Lib.hid hm
      have hm1 : 1 ≤ m := by omega
      have hm2 : m ≤ n := by omega
      clear hm
      obtain ⟨rb, hrb⟩ : ∃ z : ByteArray, z = ⟨r.toArray⟩ := ⟨_, rfl⟩
      have HRB := Lib.hid hrb
      have hsz : rb.size = n := by rw [hrb, hn]; rfl
      have hemp : rb.toList.isEmpty = false := by rw [hrb, ByteArray.toList_mk]; exact he
      rw [← hrb]
      rw [← hp] at HO ⊢
      have q0 : (0 : Int) ≤ (m : Int) := by omega
      have q1 : (m : Int) ≤ (n : Int) := by omega
      have HX : Hid (rb.extract 0 m = ⟨(r.take m).toArray⟩) := Lib.hid (cutTo44 HRB m)
      have HOX : Hid (OwT B ps (.slice vo p vc) (wr.alloc (.cells #[.string (rb.extract 0 m)] 9))) := Lib.hid (HO.out.keep ((Chg.refl [] wr).alloc _) (by simp))
      have HBA : Hid (B ≤ (wr.alloc (.cells #[.string (rb.extract 0 m)] 9)).heap.size) := Lib.hid (by have h1 := HC.out.size; have h2 := HBB.out; simp; omega)
      clear hn hp hrb he
      have hp6 : p ≤ 1000000 := by omega
      go_wp2_with (at_builtin; go_loud (refine wpList_append_lies _ rfl (.tmp 10) (.tmp 14) 26 rfl B 9 ims (.string ⟨#[]⟩) 1 16 Tryz.underlying26 HIM.out.1 HIM.out.2.1 HIM.out.2.2.1 HIM.out.2.2.2 rfl (by decide) (.slice vo p vc) p (ps.map vstr) rfl (by have h9 := HOX.out; unfold OwT at h9; rw [← HPN.out] at h9; exact h9) ⟨wr.heap.size, 0, none⟩ 1 1 [.string (rb.extract 0 m)] rfl rfl (fun j u hj => by rw [addr_add, Nat.zero_add]; exact (Blk.new wr [.string (rb.extract 0 m)] 9).cell hj) (by intro u hu; simp at hu; rcases hu with rfl; rfl) (by omega) (by unfold maxLen; omega) (by omega) HBA.out _ rfl ?kk))
      case kk =>
        intro g9 cap9 w9 h1 h2 h3 h4
        have e46 : r.take m = r.take 46 ∧ r.drop m = r.drop 46 := by
          by_cases h6 : n ≤ 46
          · rw [List.take_of_length_le (by rw [← HN.out]; have := HM.out; omega), List.take_of_length_le (by rw [← HN.out]; omega), List.drop_of_length_le (by rw [← HN.out]; have := HM.out; omega), List.drop_of_length_le (by rw [← HN.out]; omega)]
            exact ⟨rfl, rfl⟩
          · rw [show m = 46 by have := HM.out; omega]
            exact ⟨rfl, rfl⟩
        have HO9 : Hid (OwT B (ps ++ [r.take 46]) (.slice (some ⟨g9, 0, none⟩) (p + 1) cap9) w9) := Lib.hid (by
          unfold OwT
          rw [List.length_append, ← HPN.out, List.map_append, ← e46.1]
          rw [HX.out] at h1
          exact h1)
        have C9 : Hid (Chg [] w w9) := Lib.hid ((HC.out.alloc _).grown h2 (fun k hk => .inr (by have := (HOX.out.ge k hk).1; rw [← HBB.out]; exact this)))
        have HE : Hid (rb.extract m n = ⟨(r.drop 46).toArray⟩) := Lib.hid (by rw [← e46.2]; exact cutFrom44 HRB m n (by rw [← HN.out]; exact Nat.le_refl _))
        have HP9 : Hid (Jn.pieces s = (ps ++ [r.take 46]) ++ Jn.pieces (r.drop 46)) := Lib.hid (by rw [HP.out, HSTEP.out, List.append_assoc]; rfl)
        have HL9 : Hid ((r.drop 46).length = n - 46) := Lib.hid (by rw [List.length_drop, ← HN.out])
        clear h1 h2 h3 h4 e46 hmn
        go_wp2_with fail
        rw [HE.out]
        go_roundw
        case rel => exact ⟨r.drop 46, ps ++ [r.take 46], _, rfl, rfl, HO9, C9, HP9, by rw [List.length_append, HL9.out, ← HPN.out]; show p + 1 + (n - 46) ≤ _; omega⟩
        case measure =>
          show (⟨(r.drop 46).toArray⟩ : ByteArray).size < rb.size
          rw [hsz, show (⟨(r.drop 46).toArray⟩ : ByteArray).size = (r.drop 46).length from rfl, HL9.out]
          omega
end Go.Proofs.YtpmkgedlnanjiaaGreatDoor
