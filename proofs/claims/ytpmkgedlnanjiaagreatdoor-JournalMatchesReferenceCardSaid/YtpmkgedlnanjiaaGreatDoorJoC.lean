/-
  JoB, JoC in one text.
-/
import Derived.Test.YtpmkgedlnanjiaaGreatDoorJoA
import Derived.Test.YtpmkgedlnanjiaaGreatDoorJnD
import Derived.Deep.AppendLies
namespace Go.Proofs.YtpmkgedlnanjiaaGreatDoor
set_option linter.unusedVariables false
set_option linter.unusedSimpArgs false
set_option maxRecDepth 100000
open Go Go.RowKit
theorem info_str44 : ∃ i, Tryz.prog.info? 9 = some i ∧ i.zero = some (.string ⟨#[]⟩) ∧ i.size = 1 ∧ i.bytes = 16 := by
  have h : (Tryz.prog.info? 9).map (fun i => (i.zero, i.size, i.bytes)) = some (some (.string ⟨#[]⟩), 1, 16) := by kernel_rfl
  cases hi : Tryz.prog.info? 9 with
  | none => rw [hi] at h; cases h
  | some i =>
    rw [hi] at h
    simp only [Option.map_some, Option.some.injEq, Prod.mk.injEq] at h
    exact ⟨i, rfl, h⟩
/-- A list of texts in a row of its own. -/
def OwT (B : Nat) (l : List Bytes) (v : Value) (w : World) : Prop := w.ownsRow B 9 1 v l.length (l.map vstr)
theorem OwT.nil (B : Nat) (w : World) : OwT B [] (.slice none 0 0) w := ⟨by simp, .inl ⟨rfl, rfl⟩⟩
theorem OwT.form {B : Nat} {l : List Bytes} {v : Value} {w : World} (h : OwT B l v w) : ∃ ao cap, v = .slice ao l.length cap := by
  rcases h.2 with ⟨rfl, h0⟩ | ⟨g, cap, cur, rfl, _⟩
  · exact ⟨none, 0, by rw [h0]⟩
  · exact ⟨_, _, rfl⟩
theorem OwT.keep {B : Nat} {l : List Bytes} {v : Value} {own : List Nat} {w w' : World} (h : OwT B l v w) (hc : Chg own w w') (hn : ∀ k, v.ownBlock = some k → k ∉ own) : OwT B l v w' := by
  refine ⟨h.1, ?_⟩
  rcases h.2 with h0 | ⟨g, cap, cur, rfl, hb, hg, rest⟩
  · exact .inl h0
  · exact .inr ⟨g, cap, cur, rfl, hb, (hc.block g (Array.getElem?_eq_some_iff.1 hg).1 (hn g rfl)).trans hg, rest⟩
theorem OwT.ge {B : Nat} {l : List Bytes} {v : Value} {w : World} (h : OwT B l v w) : ∀ k, v.ownBlock = some k → B ≤ k ∧ k < w.heap.size := fun k hk => by
  rcases h.2 with ⟨rfl, _⟩ | ⟨g, cap, cur, rfl, hb, hg, _⟩
  · simp [Value.ownBlock] at hk
  · simp only [Value.ownBlock, Option.some.injEq] at hk
    subst hk
    exact ⟨hb, (Array.getElem?_eq_some_iff.1 hg).1⟩
/-- It can be read. -/
theorem OwT.strs {B : Nat} {l : List Bytes} {v : Value} {w : World} (h : OwT B l v w) : Strs w v l := by
  rcases h.2 with ⟨rfl, h0⟩ | ⟨g, cap, cur, rfl, hB, hg, hle, hm, hsz, ht⟩
  · have : l = [] := List.eq_nil_of_length_eq_zero h0
    subst this
    exact Strs.nil w
  · refine ⟨_, cap, rfl, hle, fun i x hx => ⟨g, 0, rfl, ?_⟩⟩
    have hi := (List.getElem?_eq_some_iff.1 hx).1
    have := World.ownsRow.cellAt h i (by omega)
    rw [Nat.zero_add, this, List.getElem?_map, hx]
    rfl
def sLen : Value → Nat
  | .string b => b.size
  | _ => 0
theorem cutTo44 {s : Bytes} {sb : ByteArray} (HSB : Hid (sb = ⟨s.toArray⟩)) (i : Nat) : sb.extract 0 i = ⟨(s.take i).toArray⟩ := by
  rw [HSB.out]
  apply ByteArray.ext
  simp
theorem cutFrom44 {s : Bytes} {sb : ByteArray} (HSB : Hid (sb = ⟨s.toArray⟩)) (i n : Nat) (h : s.length ≤ n) : sb.extract i n = ⟨(s.drop i).toArray⟩ := by
  rw [HSB.out]
  apply ByteArray.ext
  simp
  exact List.take_of_length_le (by rw [List.length_drop]; omega)
set_option maxHeartbeats 4000000 in
theorem split_r {w : World} (s : Bytes) (hs : s.length ≤ 1000000) {R : Ending → World → Prop} (h : ∀ v w', OwT w.heap.size (Jn.pieces s) v w' → Chg [] w w' → R (.returned v) w') :
    Calls Tryz.prog 47 #[.string ⟨s.toArray⟩] w R := by
  have HRR := Lib.hid h
  clear h
  obtain ⟨ims, hi⟩ := info_str44
  have HIM := Lib.hid hi
  clear hi
  obtain ⟨B, hB⟩ : ∃ B, B = w.heap.size := ⟨_, rfl⟩
  have HBB := Lib.hid hB
  rw [← hB] at HRR
  clear hB
  go_enter Tryz.func47, Tryz.ntmps47
  go_wp2_with fail
  go_loopw [0, 3] (fun sv vv wr => ∃ (r : Bytes) (ps : List Bytes) (v : Value), sv = .string ⟨r.toArray⟩ ∧ vv = v ∧ Hid (OwT B ps v wr) ∧ Hid (Chg [] w wr) ∧ Hid (Jn.pieces s = ps ++ Jn.pieces r) ∧ ps.length + r.length ≤ 1000000) (fun sv _ _ => sLen sv)
  case atStart => exact ⟨s, [], .slice none 0 0, rfl, rfl, Lib.hid (OwT.nil _ _), Lib.hid (Chg.refl _ _), Lib.hid (List.nil_append _).symm, by simpa using hs⟩
  case round =>
    obtain ⟨r, ps, vv, rfl, rfl, HO, HC, HP, hl⟩ := hrel
    by_cases hr : r = []
    · subst hr
      go_wp2_with fail
      refine HRR.out _ wr ?_ HC.out
      have h9 := HP.out
      rw [Jn.pieces_nil, List.append_nil] at h9
      rw [h9]
      exact HO.out
    · obtain ⟨vo, vc, rfl⟩ := HO.out.form
      obtain ⟨n, hn⟩ : ∃ n, n = r.length := ⟨_, rfl⟩
      obtain ⟨p, hp⟩ : ∃ p, p = ps.length := ⟨_, rfl⟩
      rw [← hn, ← hp] at hl
      have HN := Lib.hid hn
      have HPN := Lib.hid hp
      have hn0 : 0 < n := by rw [hn]; exact List.length_pos_iff.2 hr
      have he : r.isEmpty = false := by cases r with | nil => exact absurd rfl hr | cons a r => rfl
      have HSTEP := Lib.hid (Jn.pieces_cons hr)
      clear hr
      obtain ⟨m, hm⟩ : ∃ m : Nat, m = min 46 n := ⟨_, rfl⟩
      have hmn : min 46 (n : Int) = (m : Int) := by omega
      have HM := Lib.hid hm
      have hm1 : 1 ≤ m := by omega
      have hm2 : m ≤ n := by omega
      clear hm
      obtain ⟨rb, hrb⟩ : ∃ z : ByteArray, z = ⟨r.toArray⟩ := ⟨_, rfl⟩
      have HRB := Lib.hid hrb
      have hsz : rb.size = n := by rw [hrb, hn]; rfl
      have hemp : rb.toList.isEmpty = false := by rw [hrb, ByteArray.toList_mk]; exact he
      rw [← hrb]
      rw [← hp] at HO ⊢
      have q0 : (0 : Int) ≤ (m : Int) := by omega
      have q1 : (m : Int) ≤ (n : Int) := by omega
      have HX : Hid (rb.extract 0 m = ⟨(r.take m).toArray⟩) := Lib.hid (cutTo44 HRB m)
      have HOX : Hid (OwT B ps (.slice vo p vc) (wr.alloc (.cells #[.string (rb.extract 0 m)] 9))) := Lib.hid (HO.out.keep ((Chg.refl [] wr).alloc _) (by simp))
      have HBA : Hid (B ≤ (wr.alloc (.cells #[.string (rb.extract 0 m)] 9)).heap.size) := Lib.hid (by have h1 := HC.out.size; have h2 := HBB.out; simp; omega)
      clear hn hp hrb he
      have hp6 : p ≤ 1000000 := by omega
      go_wp2_with (at_builtin; go_loud (refine wpList_append_lies _ rfl (.tmp 10) (.tmp 14) 26 rfl B 9 ims (.string ⟨#[]⟩) 1 16 Tryz.underlying26 HIM.out.1 HIM.out.2.1 HIM.out.2.2.1 HIM.out.2.2.2 rfl (by decide) (.slice vo p vc) p (ps.map vstr) rfl (by have h9 := HOX.out; unfold OwT at h9; rw [← HPN.out] at h9; exact h9) ⟨wr.heap.size, 0, none⟩ 1 1 [.string (rb.extract 0 m)] rfl rfl (fun j u hj => by rw [addr_add, Nat.zero_add]; exact (Blk.new wr [.string (rb.extract 0 m)] 9).cell hj) (by intro u hu; simp at hu; rcases hu with rfl; rfl) (by omega) (by unfold maxLen; omega) (by omega) HBA.out _ rfl ?kk))
      case kk =>
        intro g9 cap9 w9 h1 h2 h3 h4
        have e46 : r.take m = r.take 46 ∧ r.drop m = r.drop 46 := by
          by_cases h6 : n ≤ 46
          · rw [List.take_of_length_le (by rw [← HN.out]; have := HM.out; omega), List.take_of_length_le (by rw [← HN.out]; omega), List.drop_of_length_le (by rw [← HN.out]; have := HM.out; omega), List.drop_of_length_le (by rw [← HN.out]; omega)]
            exact ⟨rfl, rfl⟩
          · rw [show m = 46 by have := HM.out; omega]
            exact ⟨rfl, rfl⟩
        have HO9 : Hid (OwT B (ps ++ [r.take 46]) (.slice (some ⟨g9, 0, none⟩) (p + 1) cap9) w9) := Lib.hid (by
          unfold OwT
          rw [List.length_append, ← HPN.out, List.map_append, ← e46.1]
          rw [HX.out] at h1
          exact h1)
        have C9 : Hid (Chg [] w w9) := Lib.hid ((HC.out.alloc _).grown h2 (fun k hk => .inr (by have := (HOX.out.ge k hk).1; rw [← HBB.out]; exact this)))
        have HE : Hid (rb.extract m n = ⟨(r.drop 46).toArray⟩) := Lib.hid (by rw [← e46.2]; exact cutFrom44 HRB m n (by rw [← HN.out]; exact Nat.le_refl _))
        have HP9 : Hid (Jn.pieces s = (ps ++ [r.take 46]) ++ Jn.pieces (r.drop 46)) := Lib.hid (by rw [HP.out, HSTEP.out, List.append_assoc]; rfl)
        have HL9 : Hid ((r.drop 46).length = n - 46) := Lib.hid (by rw [List.length_drop, ← HN.out])
        clear h1 h2 h3 h4 e46 hmn
        go_wp2_with fail
        rw [HE.out]
        go_roundw
        case rel => exact ⟨r.drop 46, ps ++ [r.take 46], _, rfl, rfl, HO9, C9, HP9, by rw [List.length_append, HL9.out, ← HPN.out]; show p + 1 + (n - 46) ≤ _; omega⟩
        case measure =>
          show (⟨(r.drop 46).toArray⟩ : ByteArray).size < rb.size
          rw [hsz, show (⟨(r.drop 46).toArray⟩ : ByteArray).size = (r.drop 46).length from rfl, HL9.out]
          omega
end Go.Proofs.YtpmkgedlnanjiaaGreatDoor
namespace Go.Proofs.YtpmkgedlnanjiaaGreatDoor
set_option linter.unusedVariables false
set_option linter.unusedSimpArgs false
set_option maxRecDepth 100000
open Go Go.RowKit
theorem chg_bytes44 (w : World) (e : TypeId) (s : ByteArray) : Chg [] w (Lib.bytesWorld w e s) := ⟨rfl, rfl, rfl, by rw [Lib.bytesWorld_size]; omega, fun j hj _ => Lib.bytesWorld_at_old w e s j hj⟩
theorem chg_drew44 (w : World) (n : Nat) : Chg [] w (w.drewN n) := ⟨rfl, rfl, rfl, Nat.le_refl _, fun _ _ _ => rfl⟩
/-- Atoi at any text. -/
theorem atoi_r {w : World} (HL : Hid (Laid w)) (s : Bytes) (hs : s.length ≤ 1000000) {R : Ending → World → Prop}
    (hok : ∀ v w', Lib.atoiAll s = .ok v → Chg [] w w' → R (.returned (.tuple #[.int .i64 v, .nilIface])) w')
    (hno : ∀ n T N w', (∀ v, Lib.atoiAll s ≠ .ok v) → (n = 0 ∨ n = -9223372036854775808 ∨ n = 9223372036854775807) → Chg [] w w' → R (.returned (.tuple #[.int .i64 n, .iface T (.pointer (some ⟨N, 0, none⟩))])) w') :
    Calls Tryz.prog 35 #[.string ⟨s.toArray⟩] w R := by
  have hz : (⟨s.toArray⟩ : ByteArray).size = s.length := rfl
  cases h : Lib.atoiAll s using num_cases with
  | ok v =>
    refine (Tryz.strconv_Atoi_ok ⟨s.toArray⟩ (by rw [hz]; omega) v h w).mono ?_
    rintro e w' ⟨rfl, rfl | ⟨t, rfl⟩⟩
    · exact hok v _ h (Chg.refl _ _)
    · exact hok v _ h (chg_bytes44 _ _ _)
  | bad =>
    obtain ⟨ev, h1, h2⟩ := HL.out.syn
    refine (Tryz.strconv_Atoi_syntax ⟨s.toArray⟩ (by rw [hz]; omega) h ev w h1 h2).mono ?_
    rintro e w' ⟨N, rfl, _, _, hb⟩
    exact hno 0 _ N w' (fun v hv => by rw [h] at hv; cases hv) (.inl rfl) (Below.chg (Chg.refl _ _) hb)
  | range =>
    obtain ⟨ev, h1, h2⟩ := HL.out.rng
    refine (Tryz.strconv_Atoi_range ⟨s.toArray⟩ (by rw [hz]; omega) h ev w h1 h2).mono ?_
    rintro e w' ⟨N, rfl, _, _, hb⟩
    refine hno _ _ N w' (fun v hv => by rw [h] at hv; cases hv) ?_ (Below.chg (Chg.refl _ _) hb)
    show Lib.atoiSat s = 0 ∨ _
    unfold Lib.atoiSat
    split
    · exact .inr (.inl rfl)
    · exact .inr (.inr rfl)
set_option maxHeartbeats 8000000 in
theorem parse44_r {w : World} (HL : Hid (Laid w)) (s : Bytes) (hs : s.length ≤ 1000000) {R : Ending → World → Prop}
    (hok : ∀ l v w', Jn.records s = some l → OwT w.heap.size l v w' → Chg [] w w' → R (.returned (.tuple #[v, .bool true])) w')
    (hno : ∀ w', Jn.records s = none → Chg [] w w' → R (.returned (.tuple #[.slice none 0 0, .bool false])) w') :
    Calls Tryz.prog 38 #[.string ⟨s.toArray⟩] w R := by
  have HOK := Lib.hid hok
  have HNO := Lib.hid hno
  clear hok hno
  obtain ⟨ims, hi⟩ := info_str44
  have HIM := Lib.hid hi
  clear hi
  obtain ⟨B, hB⟩ : ∃ B, B = w.heap.size := ⟨_, rfl⟩
  have HBB := Lib.hid hB
  rw [← hB] at HOK
  clear hB
  go_enter Tryz.func38, Tryz.ntmps38
  go_wp2_with fail
  go_loopw [0, 4] (fun sv vv wr => ∃ (r : Bytes) (ps : List Bytes) (v : Value), sv = .string ⟨r.toArray⟩ ∧ vv = v ∧ Hid (OwT B ps v wr) ∧ Hid (Chg [] w wr) ∧ Hid (Jn.records s = (Jn.records r).map (fun l => ps ++ l)) ∧ ps.length + r.length ≤ 1000000) (fun sv _ _ => sLen sv)
  case atStart => exact ⟨s, [], .slice none 0 0, rfl, rfl, Lib.hid (OwT.nil _ _), Lib.hid (Chg.refl _ _), Lib.hid (by cases Jn.records s <;> rfl), by simpa using hs⟩
  case round =>
    obtain ⟨r, ps, vv, rfl, rfl, HO, HC, HP, hl⟩ := hrel
    by_cases hr : r = []
    · subst hr
      go_wp2_with fail
      refine HOK.out ps _ wr ?_ HO.out HC.out
      have h9 := HP.out
      rw [Jn.records_nil, Option.map_some, List.append_nil] at h9
      exact h9
    · obtain ⟨vo, vc, rfl⟩ := HO.out.form
      obtain ⟨n, hn⟩ : ∃ n, n = r.length := ⟨_, rfl⟩
      obtain ⟨p, hp⟩ : ∃ p, p = ps.length := ⟨_, rfl⟩
      rw [← hn, ← hp] at hl
      have HN := Lib.hid hn
      have HPN := Lib.hid hp
      have hn0 : 0 < n := by rw [hn]; exact List.length_pos_iff.2 hr
      have he : r.isEmpty = false := by cases r with | nil => exact absurd rfl hr | cons a r => rfl
      have HSTEP := Lib.hid (Jn.records_step hr)
      obtain ⟨ml, hml⟩ := (HL.out.quiet HC.out).cut
      rw [← hp] at HO ⊢
      clear hr hn hp
      go_wp2_with fail
      refine (Tryz.strings_Cut ⟨r.toArray⟩ ⟨#[58]⟩ ml wr (by show r.length < _; have := HN.out; omega) hml).mono ?_
      rintro e w2 ⟨rfl, k, hw2⟩
      have C2 : Hid (Chg [] w w2) := Lib.hid (HC.out.trans (by rw [hw2]; exact chg_drew44 _ _) (by simp))
      have HO2 : Hid (OwT B ps (.slice vo p vc) w2) := Lib.hid (HO.out.keep (own := []) (by rw [hw2]; exact chg_drew44 _ _) (by simp))
      rw [show Lib.cut (⟨r.toArray⟩ : ByteArray).data.toList (⟨#[58]⟩ : ByteArray).data.toList = _ from Jn.cut_lib44 r]
      clear hw2 hml he HO HC
      cases hc : Jn.cutC r with
      | none =>
        have HNN : Hid (Jn.records s = none) := Lib.hid (by rw [HP.out, HSTEP.out, hc]; rfl)
        clear hc
        go_wp2_with fail
        refine atoi_r (Lib.hid (HL.out.quiet C2.out)) r (by have := HN.out; omega) (fun v w3 hv h3 => ?_) (fun nn T N w3 hv hnn h3 => ?_)
        · have C3 : Hid (Chg [] w w3) := Lib.hid (C2.out.trans h3 (by simp))
          clear h3 hv
          go_wp2_with fail
          exact HNO.out w3 HNN.out C3.out
        · have C3 : Hid (Chg [] w w3) := Lib.hid (C2.out.trans h3 (by simp))
          clear h3 hv hnn
          go_wp2_with fail
          exact HNO.out w3 HNN.out C3.out
      | some x =>
        obtain ⟨a, b⟩ := x
        have HLN : Hid (n = a.length + 1 + b.length) := Lib.hid (by rw [HN.out]; exact Jn.cutC_len r a b hc)
        have HST2 : Hid (Jn.records r = match Jn.lenOf a with | none => none | some n => if b.length < n then none else (Jn.records (b.drop n)).map (fun l => b.take n :: l)) := Lib.hid (by have h9 := HSTEP.out; rw [hc] at h9; exact h9)
        clear hc HSTEP
        have HNN : Hid (Jn.lenOf a = none → Jn.records s = none) := Lib.hid (fun h => by rw [HP.out, HST2.out, h]; rfl)
        simp only
        go_wp2_with fail
        refine atoi_r (Lib.hid (HL.out.quiet C2.out)) a (by have := HLN.out; omega) (fun v w3 hv h3 => ?_) (fun nn T N w3 hv hnn h3 => ?_)
        · have C3 : Hid (Chg [] w w3) := Lib.hid (C2.out.trans h3 (by simp))
          have HO3 : Hid (OwT B ps (.slice vo p vc) w3) := Lib.hid (HO2.out.keep h3 (by simp))
          have hvb := Lib.atoiAll_bounds hv
          have HLO : Hid (Jn.lenOf a = if 0 ≤ v ∧ v ≤ 2000 ∧ Lib.itoa v = a then some v.toNat else none) := Lib.hid (by rw [Jn.lenOf_iff, hv])
          clear h3 hv HO2
          by_cases hv0 : v < 0
          · have HR0 : Hid (Jn.records s = none) := Lib.hid (HNN.out (by rw [HLO.out, if_neg (by omega)]))
            go_wp2_with fail
            exact HNO.out w3 HR0.out C3.out
          by_cases hv2 : 2000 < v
          · have HR0 : Hid (Jn.records s = none) := Lib.hid (HNN.out (by rw [HLO.out, if_neg (by omega)]))
            go_wp2_with fail
            exact HNO.out w3 HR0.out C3.out
          obtain ⟨q, rfl⟩ : ∃ q : Nat, v = (q : Int) := ⟨v.toNat, by omega⟩
          go_wp2_with fail
          refine (Tryz.strconv_Itoa (q : Int) (by omega) (by omega) w3 (HL.out.quiet C3.out).pow).mono ?_
          rintro e w4 ⟨rfl, d, os, rfl⟩
          have hb4 : Chg [] w3 (Go.Sort.grow (w3.drewN d) os) := Below.chg (Chg.refl _ _) (Lib.below_grow _ _ (Nat.le_refl _) _ _)
          generalize Go.Sort.grow (w3.drewN d) os = w4 at *
          have C4 : Hid (Chg [] w w4) := Lib.hid (C3.out.trans hb4 (by simp))
          have HO4 : Hid (OwT B ps (.slice vo p vc) w4) := Lib.hid (HO3.out.keep hb4 (by simp))
          clear hb4 HO3
          obtain ⟨it, hit⟩ : ∃ it, it = Lib.itoa (q : Int) := ⟨_, rfl⟩
          rw [← hit]
          have HIT := Lib.hid hit
          clear hit
          by_cases hia : it = a
          · have HIA := Lib.hid hia
            have en : (it == a) = true := by rw [hia]; exact beq_self_eq_true _
            have fn : (it != a) = false := by rw [hia]; simp
            have HLQ : Hid (Jn.lenOf a = some q) := Lib.hid (by rw [HLO.out, if_pos ⟨by omega, by omega, by rw [← HIT.out]; exact hia⟩, Int.toNat_natCast])
            have HRQ : Hid (Jn.records r = if b.length < q then none else (Jn.records (b.drop q)).map (fun l => b.take q :: l)) := Lib.hid (by have h9 := HST2.out; rw [HLQ.out] at h9; exact h9)
            clear hia HLO HST2 HNN
            obtain ⟨m, hm⟩ : ∃ m, m = b.length := ⟨_, rfl⟩
            have HM := Lib.hid hm
            have hln : n = a.length + 1 + m := by rw [hm]; exact HLN.out
            by_cases hql : m < q
            · have HR0 : Hid (Jn.records s = none) := Lib.hid (by rw [HP.out, HRQ.out, if_pos (by rw [← hm]; exact hql)]; rfl)
              have z1 : (b.length : Int) < (q : Int) := by omega
              go_wp2_with fail
              exact HNO.out w4 HR0.out C4.out
            · have HR1 : Hid (Jn.records r = (Jn.records (b.drop q)).map (fun l => b.take q :: l)) := Lib.hid (by rw [HRQ.out, if_neg (by rw [← hm]; exact hql)])
              clear HRQ
              have z1 : ¬ (b.length : Int) < (q : Int) := by omega
              obtain ⟨rb, hrb⟩ : ∃ z : ByteArray, z = ⟨b.toArray⟩ := ⟨_, rfl⟩
              have HRB := Lib.hid hrb
              have hsz : rb.size = m := by rw [hrb, hm]; rfl
              have q0 : (0 : Int) ≤ (q : Int) := by omega
              have q1 : (q : Int) ≤ (m : Int) := by omega
              go_upto_region 7 with (fail)
              clear en fn z1
              try rw [← hrb]
              have HX : Hid (rb.extract 0 q = ⟨(b.take q).toArray⟩) := Lib.hid (cutTo44 HRB q)
              have HOX : Hid (OwT B ps (.slice vo p vc) (w4.alloc (.cells #[.string (rb.extract 0 q)] 9))) := Lib.hid (HO4.out.keep ((Chg.refl [] w4).alloc _) (by simp))
              have HBA : Hid (B ≤ (w4.alloc (.cells #[.string (rb.extract 0 q)] 9)).heap.size) := Lib.hid (by have h1 := C4.out.size; have h2 := HBB.out; simp; omega)
              have hp6 : p ≤ 1000000 := by omega
              clear hrb hm
              go_wp2_with (at_builtin; go_loud (refine wpList_append_lies _ rfl (.tmp 49) (.tmp 53) 26 rfl B 9 ims (.string ⟨#[]⟩) 1 16 Tryz.underlying26 HIM.out.1 HIM.out.2.1 HIM.out.2.2.1 HIM.out.2.2.2 rfl (by decide) (.slice vo p vc) p (ps.map vstr) rfl (by have h9 := HOX.out; unfold OwT at h9; rw [← HPN.out] at h9; exact h9) ⟨w4.heap.size, 0, none⟩ 1 1 [.string (rb.extract 0 q)] rfl rfl (fun j u hj => by rw [addr_add, Nat.zero_add]; exact (Blk.new w4 [.string (rb.extract 0 q)] 9).cell hj) (by intro u hu; simp at hu; rcases hu with rfl; rfl) (by omega) (by unfold maxLen; omega) (by omega) HBA.out _ rfl ?kk))
              case kk =>
                intro g9 cap9 w9 h1 h2 h3 h4
                have HO9 : Hid (OwT B (ps ++ [b.take q]) (.slice (some ⟨g9, 0, none⟩) (p + 1) cap9) w9) := Lib.hid (by
                  unfold OwT
                  rw [List.length_append, ← HPN.out, List.map_append]
                  rw [HX.out] at h1
                  exact h1)
                have C9 : Hid (Chg [] w w9) := Lib.hid ((C4.out.alloc _).grown h2 (fun k hk => .inr (by have := (HOX.out.ge k hk).1; rw [← HBB.out]; exact this)))
                have HE : Hid (rb.extract q m = ⟨(b.drop q).toArray⟩) := Lib.hid (cutFrom44 HRB q m (by rw [← HM.out]; exact Nat.le_refl _))
                have HP9 : Hid (Jn.records s = (Jn.records (b.drop q)).map (fun l => (ps ++ [b.take q]) ++ l)) := Lib.hid (by rw [HP.out, HR1.out, Option.map_map]; congr 1; funext l; show ps ++ (b.take q :: l) = _; rw [List.append_assoc]; rfl)
                have HL9 : Hid ((b.drop q).length = m - q) := Lib.hid (by rw [List.length_drop, ← HM.out])
                clear h1 h2 h3 h4
                go_wp2_with fail
                rw [HE.out]
                go_roundw
                case rel => exact ⟨b.drop q, ps ++ [b.take q], _, rfl, rfl, HO9, C9, HP9, by rw [List.length_append, HL9.out, ← HPN.out]; show p + 1 + (m - q) ≤ _; omega⟩
                case measure =>
                  show (⟨(b.drop q).toArray⟩ : ByteArray).size < (⟨r.toArray⟩ : ByteArray).size
                  rw [show (⟨r.toArray⟩ : ByteArray).size = r.length from rfl, show (⟨(b.drop q).toArray⟩ : ByteArray).size = (b.drop q).length from rfl, HL9.out, ← HN.out]
                  omega
          · have en : (it == a) = false := by rw [beq_eq_false_iff_ne]; exact hia
            have fn : (it != a) = true := by simp [hia]
            have HR0 : Hid (Jn.records s = none) := Lib.hid (HNN.out (by rw [HLO.out, if_neg (fun h => hia (by rw [HIT.out]; exact h.2.2))]))
            go_wp2_with fail
            exact HNO.out w4 HR0.out C4.out
        · have C3 : Hid (Chg [] w w3) := Lib.hid (C2.out.trans h3 (by simp))
          have HR0 : Hid (Jn.records s = none) := Lib.hid (HNN.out (by
            rw [Jn.lenOf_iff]
            cases h9 : Lib.atoiAll a using num_cases with
            | ok v => exact absurd h9 (hv v)
            | bad => rfl
            | range => rfl))
          clear h3 hv hnn
          go_wp2_with fail
          exact HNO.out w3 HR0.out C3.out
end Go.Proofs.YtpmkgedlnanjiaaGreatDoor
