/-
  Journal, plain laws: the fixed examples of the statements.
-/
import Derived.Test.YtpmkgedlnanjiaaGreatDoorJnI
import Derived.Test.YtpmkgedlnanjiaaGreatDoorJnE
namespace Go.Proofs.YtpmkgedlnanjiaaGreatDoor
set_option linter.unusedVariables false
set_option linter.unusedSimpArgs false
open Go
namespace Jn
theorem rot_q (D : DK) (s a m : Int) : (D.rot s a m).q = D.q := by unfold DK.rot; split <;> rfl
theorem stale_q (D : DK) (s : Int) : (D.stale s).q = D.q := by unfold DK.stale; split <;> rfl
theorem rot_form {D : DK} (s a m : Int) (hr : D.rotOk s a m = true) (hq : D.q = []) (hon : On D) : On (D.rot s a m) ∧ (0 ≤ s ∧ s < (D.n : Int)) ∧ a.toNat < 64 ∧ UInt8.ofNat m.toNat ≠ 0 ∧ ∀ i, (D.rot s a m).cur i = if i = s.toNat then DK.flip (D.cur i) a.toNat (UInt8.ofNat m.toNat) else D.cur i := by
  have hok := DK.rot_ok hon.ok s a m
  have e : D.rot s a m = { D with st := fun i => if i = s.toNat then DK.flip (D.st i) a.toNat (UInt8.ofNat m.toNat) else D.st i } := by unfold DK.rot; rw [if_pos hr]
  unfold DK.rotOk DK.valid at hr
  simp only [Bool.and_eq_true, decide_eq_true_eq] at hr
  obtain ⟨⟨r1, r2⟩, r3, r4, r5, r6⟩ := hr
  refine ⟨⟨by rw [e]; exact hon.off, by rw [e]; exact hon.arm, hok⟩, ⟨r1, r2⟩, by omega, fun h0 => ?_, fun i => by rw [cur_st ((rot_q _ _ _ _).trans hq), cur_st hq, e]⟩
  have := congrArg UInt8.toNat h0
  rw [UInt8.toNat_ofNat'] at this
  have h1 : (0 : UInt8).toNat = 0 := rfl
  omega
theorem rot_first {sm : Bytes → Bytes} (h : Dig sm) (one : ∀ a x y b, sm (a ++ x :: b) = sm (a ++ y :: b) → x = y) {D : DK} {c : Nat} {l : List Bytes} (hl : Live sm D c l) (hN : D.n ≤ 40) (s a m : Int) (hr : D.rotOk s a m = true) (hs : s < 2) : ∃ F, openJ sm (D.rot s a m) = ((0, some ⟨D.n, c, l, false⟩), F) ∧ F.n = D.n ∧ Live sm F c l := by
  obtain ⟨hon, ⟨h1, h2⟩, h3, h4, h5⟩ := rot_form s a m hr hl.q hl.on
  have hn : (D.rot s a m).n = D.n := DK.rot_n _ _ _ _
  have ha : At sm (D.rot s a m) c l := hl.lies.head h.len (by omega) hn (p := s.toNat) (by omega) (hl.neat (1 - s.toNat) (by omega)) (fun i _ hne => by rw [h5, if_neg hne]) (fun k hk => by
    rw [h5, if_pos rfl] at hk
    exact rot_head h one (by omega) (hl.neat s.toNat (by omega)) (hl.on.cur_len (by omega)) h3 h4 hk)
  obtain ⟨F, f1, f2, f3⟩ := open_live h.len hon ((rot_q _ _ _ _).trans hl.q) ha
  rw [hn] at f1 f2
  exact ⟨F, f1, f2, f3⟩
theorem rot_later {sm : Bytes → Bytes} (h : Dig sm) (one : ∀ a x y b, sm (a ++ x :: b) = sm (a ++ y :: b) → x = y) {D : DK} {c : Nat} {l : List Bytes} (hl : Live sm D c l) (s a m : Int) (hr : D.rotOk s a m = true) (hs : 2 ≤ s) (hs2 : s < 2 + (c : Int)) : openJ sm (D.rot s a m) = ((25, none), D.rot s a m) := by
  obtain ⟨hon, ⟨h1, h2⟩, h3, h4, h5⟩ := rot_form s a m hr hl.q hl.on
  have hn : (D.rot s a m).n = D.n := DK.rot_n _ _ _ _
  have h6 := hl.lies.n3
  rcases open_on h.len hon (by omega) with ⟨e, _⟩ | ⟨c2, l2, F, ha, _⟩
  · exact e
  · exfalso
    have h7 := ha.hd
    rw [h5 0, if_neg (by omega), h5 1, if_neg (by omega), hn, hl.lies.hd] at h7
    injection h7 with h7
    subst h7
    obtain ⟨t, t1, _⟩ := ha.fd
    obtain ⟨t0, t2, _⟩ := hl.lies.fd
    obtain ⟨x, hx⟩ := found_piece t1 (s.toNat - 2) (by omega)
    obtain ⟨y, hy⟩ := found_piece t2 (s.toNat - 2) (by omega)
    rw [show 2 + (s.toNat - 2) = s.toNat by omega] at hx hy
    rw [h5, if_pos rfl, rot_piece h.len one hy h3 h4] at hx
    cases hx
theorem zeros_text (n : Nat) : (text [List.replicate n 0]).length = (Lib.itoa (n : Int)).length + 1 + n := by
  rw [text_cons]
  simp only [List.length_append, List.length_cons, List.length_replicate]
  show _ + (n + 0 + 1) = _
  omega
theorem split_min : ∀ (k : Nat) (s : Bytes), s.length ≤ k → s.length ≤ 46 * (split k s).length
  | 0, s, h => by omega
  | k + 1, s, h => by
    unfold split
    by_cases hs : s = []
    · rw [if_pos hs, hs]; simp
    · have h0 : 0 < s.length := List.length_pos_iff.2 hs
      have := split_min k (s.drop 46) (by rw [List.length_drop]; omega)
      rw [if_neg hs, List.length_cons]
      rw [List.length_drop] at this
      omega
theorem any_one (n : Nat) : [List.replicate n (0 : UInt8)].any (fun r => decide (2000 < r.length)) = decide (2000 < n) := by
  rw [List.any_cons, List.any_nil, Bool.or_false, List.length_replicate]
/-- The examples on a disk of six sectors. -/
structure Head6 (sm : Bytes → Bytes) (E1 E2 : DK) : Prop where
  o1 : openJ sm (DK.new 6) = ((0, some ⟨6, 0, [], false⟩), DK.new 6)
  a1 : append sm ⟨6, 0, [], false⟩ (DK.new 6) [[97], [98, 99]] = ((0, ⟨6, 1, [[97], [98, 99]], false⟩), E1)
  l1 : Live sm E1 1 [[97], [98, 99]]
  n1 : E1.n = 6
  a2 : append sm ⟨6, 1, [[97], [98, 99]], false⟩ E1 [List.replicate 200 0] = ((23, ⟨6, 1, [[97], [98, 99]], false⟩), E1)
  a3 : append sm ⟨6, 1, [[97], [98, 99]], false⟩ E1 [List.replicate 2001 0] = ((3, ⟨6, 1, [[97], [98, 99]], false⟩), E1)
  f1 : (E1.fail 0 0).start = E1
  o2 : openJ sm E1 = ((0, some ⟨6, 1, [[97], [98, 99]], false⟩), E1)
  o3 : openJ sm (E1.rot 0 5 1) = ((0, some ⟨6, 1, [[97], [98, 99]], false⟩), E2)
  q2 : E2.q = []
  n2 : E2.n = 6
  o4 : openJ sm (E2.rot 2 40 1) = ((25, none), E2.rot 2 40 1)
  o5 : openJ sm (DK.new 2) = ((1, none), DK.new 2)
theorem text2 : text [[97], [98, 99]] = [49, 58, 97, 50, 58, 98, 99] := by
  rw [text_cons, text_cons]
  show Lib.itoa ((1 : Nat) : Int) ++ 58 :: ([97] ++ (Lib.itoa ((2 : Nat) : Int) ++ 58 :: ([98, 99] ++ []))) = _
  rw [itoa_dec, itoa_dec, Lib.decDigits_one (by decide), Lib.decDigits_one (by decide)]
  rfl
theorem head6 {sm : Bytes → Bytes} (h : Dig sm) (one : ∀ a x y b, sm (a ++ x :: b) = sm (a ++ y :: b) → x = y) : ∃ E1 E2, Head6 sm E1 E2 := by
  have l0 := live_new h.len (n := 6) (by decide) (by decide)
  have o1 := l0.openJ
  have hp : pieces (text [[97], [98, 99]]) = [[49, 58, 97, 50, 58, 98, 99]] := by rw [text2]; rfl
  obtain ⟨E1, e1, e2, e3⟩ := l0.append h.len [[97], [98, 99]]
  have hv : verdict (DK.new 6) 0 [[97], [98, 99]] = 0 := by
    unfold verdict
    rw [if_neg (by decide), hp, if_neg (by decide)]
  rw [hv, hp] at e1 e3
  simp only [if_true] at e1 e3
  have l1 : Live sm E1 1 [[97], [98, 99]] := e3
  have n1 : E1.n = 6 := e2
  obtain ⟨E2, f1, f2, f3⟩ := rot_first h one l1 (by omega) 0 5 1 (by unfold DK.rotOk DK.valid; rw [n1]; decide) (by decide)
  rw [n1] at f1 f2
  have o2 := l1.openJ
  rw [n1] at o2
  refine ⟨E1, E2, o1, e1, l1, n1, ?_, ?_, ?_, o2, f1, f3.q, f2, ?_, rfl⟩
  · unfold append
    rw [if_neg (by decide), if_neg (by rw [any_one]; decide), if_pos]
    have h1 := split_min _ (text [List.replicate 200 0]) (Nat.le_refl _)
    have h2 := zeros_text 200
    have h3 := itoa_pos 200
    show 6 - 2 - 1 < (split _ _).length
    omega
  · unfold append
    rw [if_neg (by decide), if_pos (by rw [any_one]; decide)]
  · rw [l1.fail, l1.start]
  · exact rot_later h one f3 2 40 1 (by unfold DK.rotOk DK.valid; rw [f2]; decide) (by decide) (by decide)
end Jn
end Go.Proofs.YtpmkgedlnanjiaaGreatDoor
