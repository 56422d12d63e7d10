/-
  Journal, plain laws: a byte that rots, a sector that becomes stale.
-/
import Derived.Test.YtpmkgedlnanjiaaGreatDoorJnG
namespace Go.Proofs.YtpmkgedlnanjiaaGreatDoor
set_option linter.unusedVariables false
set_option linter.unusedSimpArgs false
open Go
namespace Jn
theorem flip_form {t : Bytes} {a : Nat} {m : UInt8} (ha : a < t.length) (hm : m ≠ 0) : ∃ u x y v, t = u ++ x :: v ∧ DK.flip t a m = u ++ y :: v ∧ x ≠ y ∧ u.length = a := by
  have e1 : t = t.take a ++ t[a] :: t.drop (a + 1) := by rw [← List.drop_eq_getElem_cons ha, List.take_append_drop]
  refine ⟨t.take a, t[a], t.getD a 0 ^^^ m, t.drop (a + 1), e1, ?_, ?_, by rw [List.length_take]; omega⟩
  · unfold DK.flip
    rw [List.set_eq_take_append_cons_drop, if_pos ha]
  · rw [List.getD_eq_getElem?_getD, List.getElem?_eq_getElem ha, Option.getD_some]
    intro e
    have : t[a] ^^^ t[a] = t[a] ^^^ (t[a] ^^^ m) := by rw [← e]
    rw [← UInt8.xor_assoc, UInt8.xor_self, UInt8.zero_xor] at this
    exact hm this.symm
theorem sealed_one {sm : Bytes → Bytes} (hs : ∀ s, (sm s).length = 16) (one : ∀ a x y b, sm (a ++ x :: b) = sm (a ++ y :: b) → x = y) {p : Nat} {c c2 u v : Bytes} {x y : UInt8} (e1 : sealed sm p c = u ++ x :: v) (e2 : sealed sm p c2 = u ++ y :: v) : x = y := by
  have d1 := sealed_drop hs p c
  have d2 := sealed_drop hs p c2
  rw [e1] at d1
  rw [e2] at d2
  by_cases hu : u.length < 16
  · have e : ∀ z : UInt8, (u ++ z :: v).drop 16 = v.drop (15 - u.length) := fun z => by
      rw [List.drop_append, List.drop_of_length_le (by omega), List.nil_append, show 16 - u.length = (15 - u.length) + 1 by omega, List.drop_succ_cons]
    rw [e] at d1 d2
    have h1 : sealed sm p c = sealed sm p c2 := by unfold sealed; rw [← d1, ← d2]
    rw [e1, e2] at h1
    have h2 := List.append_cancel_left h1
    injection h2
  · have e : ∀ z : UInt8, (u ++ z :: v).drop 16 = u.drop 16 ++ z :: v := fun z => List.drop_append_of_le_length (by omega)
    rw [e] at d1 d2
    have t1 : (sealed sm p c).take 16 = sm (dgt p 8 ++ fit c) := by unfold sealed; rw [List.take_append_of_le_length (by rw [hs]; omega), List.take_of_length_le (by rw [hs]; omega)]
    have t2 : (sealed sm p c2).take 16 = sm (dgt p 8 ++ fit c2) := by unfold sealed; rw [List.take_append_of_le_length (by rw [hs]; omega), List.take_of_length_le (by rw [hs]; omega)]
    rw [e1, List.take_append_of_le_length (by omega)] at t1
    rw [e2, List.take_append_of_le_length (by omega), t1, ← d1, ← d2, ← List.append_assoc, ← List.append_assoc] at t2
    exact one _ _ _ _ t2
theorem rot_head {sm : Bytes → Bytes} (h : Dig sm) (one : ∀ a x y b, sm (a ++ x :: b) = sm (a ++ y :: b) → x = y) {p c room a : Nat} {t : Bytes} {m : UInt8} (hr : room ≤ 38) (hg : Good sm p c t) (hl : t.length = 64) (ha : a < 64) (hm : m ≠ 0) {k : Nat} (hk : cnt sm p (DK.flip t a m) room = some k) : k ≤ c := by
  obtain ⟨u, x, y, v, e1, e2, hxy, hu⟩ := flip_form (t := t) (a := a) (by omega) hm
  obtain ⟨hk1, hk2 | hk2⟩ := cnt_some hk
  · exfalso
    rcases hg with hg | ⟨rfl, hg⟩
    · exact hxy (sealed_one h.len one (hg.symm.trans e1) (hk2.symm.trans e2))
    · rw [e2] at hk2
      rw [e1] at hg
      by_cases h0 : a = 0
      · have hu0 : u = [] := List.eq_nil_of_length_eq_zero (by omega)
        subst hu0
        have hv : v = List.replicate 63 0 := by
          have h1 : x :: v = 0 :: List.replicate 63 0 := hg
          injection h1
        have h1 := sealed_drop h.len p (dgt k 8)
        rw [show sealed sm p (dgt k 8) = head sm p k from rfl, ← hk2, List.nil_append, List.drop_succ_cons, hv] at h1
        exact fit_nz (by omega) (h1.symm.trans (by decide))
      · cases u with
        | nil => exact h0 (by simpa using hu.symm)
        | cons z u =>
          have h1 : z :: (u ++ x :: v) = 0 :: List.replicate 63 0 := hg
          injection h1 with hz _
          subst hz
          have h2 : (sm (dgt p 8 ++ fit (dgt k 8))).head? = some 0 := by
            rw [← head_take h.len, ← hk2, List.head?_take, if_neg (by decide)]
            rfl
          exact h.hex _ 0 (List.mem_of_mem_head? h2) rfl
  · omega
theorem rot_piece {sm : Bytes → Bytes} (hs : ∀ s, (sm s).length = 16) (one : ∀ a x y b, sm (a ++ x :: b) = sm (a ++ y :: b) → x = y) {p a : Nat} {t w : Bytes} {m : UInt8} (hg : piece sm p t = some w) (ha : a < 64) (hm : m ≠ 0) : piece sm p (DK.flip t a m) = none := by
  obtain ⟨h1, _, _⟩ := piece_some hs hg
  have hl : t.length = 64 := by rw [h1]; exact sealed_len hs _ _
  obtain ⟨u, x, y, v, e1, e2, hxy, hu⟩ := flip_form (t := t) (a := a) (by omega) hm
  cases hp : piece sm p (DK.flip t a m) with
  | none => rfl
  | some w2 =>
    exfalso
    obtain ⟨h2, _, _⟩ := piece_some hs hp
    exact hxy (sealed_one hs one (h1.symm.trans e1) (h2.symm.trans e2))
theorem piece_zero {sm : Bytes → Bytes} (hs : ∀ s, (sm s).length = 16) (p : Nat) : piece sm p zero = none := by
  cases hp : piece sm p zero with
  | none => rfl
  | some x =>
    exfalso
    obtain ⟨h1, _, h3⟩ := piece_some hs hp
    have l2 := sector_len2 h3
    exact sealed_ne hs (p := p) (a := dgt x.length 2) (b := x) (by omega) (by omega) (dgt_isD _ _) h1.symm
theorem found_piece {sm : Bytes → Bytes} {D : DK} : ∀ {c : Nat} {t : Bytes}, found sm D c = some t → ∀ i, i < c → ∃ x, piece sm (2 + i) (D.cur (2 + i)) = some x
  | 0, t, _, i, hi => by omega
  | c + 1, t, h, i, hi => by
    unfold found at h
    cases hf : found sm D c with
    | none => rw [hf] at h; cases h
    | some t2 =>
      rw [hf] at h
      simp only at h
      obtain ⟨x, hx, _⟩ := Option.map_eq_some_iff.1 h
      by_cases hc : i = c
      · subst hc
        exact ⟨x, hx⟩
      · exact found_piece hf i (by omega)
/-- One sector is hurt. -/
theorem hurt_open {sm : Bytes → Bytes} (h : Dig sm) {D E : DK} {c : Nat} {l : List Bytes} (hl : Live sm D c l) (hN : D.n ≤ 40) (he : On E) (hq : E.q = []) (hn : E.n = D.n) {s : Nat} (ho : ∀ i, i < D.n → i ≠ s → E.cur i = D.cur i)
    (hh : s < 2 → ∀ k, cnt sm s (E.cur s) (D.n - 2) = some k → k ≤ c) (hp : ∀ i, s = 2 + i → i < c → piece sm s (E.cur s) = none) : (∃ F, openJ sm E = ((25, none), F)) ∨ ∃ F, openJ sm E = ((0, some ⟨D.n, c, l, false⟩), F) := by
  have h3 := hl.lies.n3
  have h4 := hl.lies.cn
  have hok : At sm E c l → ∃ F, openJ sm E = ((0, some ⟨D.n, c, l, false⟩), F) := fun ha => by
    obtain ⟨F, e1, _⟩ := open_live h.len he hq ha
    rw [hn] at e1
    exact ⟨F, e1⟩
  by_cases h2 : s < 2
  · exact .inr (hok (hl.lies.head h.len (by omega) hn h2 (hl.neat (1 - s) (by omega)) ho (hh h2)))
  · by_cases hc : s < 2 + c
    · rcases open_on h.len he (by omega) with ⟨e, _⟩ | ⟨c2, l2, F, ha, _⟩
      · exact .inl ⟨E, e⟩
      · exfalso
        have h5 := ha.hd
        rw [ho 0 (by omega) (by omega), ho 1 (by omega) (by omega), hn, hl.lies.hd] at h5
        injection h5 with h5
        subst h5
        obtain ⟨t, t1, _⟩ := ha.fd
        obtain ⟨x, hx⟩ := found_piece t1 (s - 2) (by omega)
        rw [show 2 + (s - 2) = s by omega, hp (s - 2) (by omega) (by omega)] at hx
        cases hx
    · refine .inr (hok (hl.lies.move hn (fun i hi => ho _ (by omega) (by omega)) ?_))
      rw [ho 0 (by omega) (by omega), ho 1 (by omega) (by omega), hn]
      exact hl.lies.hd
theorem rot_open {sm : Bytes → Bytes} (h : Dig sm) (one : ∀ a x y b, sm (a ++ x :: b) = sm (a ++ y :: b) → x = y) {D : DK} {c : Nat} {l : List Bytes} (hl : Live sm D c l) (hN : D.n ≤ 40) (s a m : Int) : (∃ F, openJ sm (D.rot s a m) = ((25, none), F)) ∨ ∃ F, openJ sm (D.rot s a m) = ((0, some ⟨D.n, c, l, false⟩), F) := by
  have hok := DK.rot_ok hl.on.ok s a m
  by_cases hr : D.rotOk s a m = true
  · have e : D.rot s a m = { D with st := fun i => if i = s.toNat then DK.flip (D.st i) a.toNat (UInt8.ofNat m.toNat) else D.st i } := by unfold DK.rot; rw [if_pos hr]
    unfold DK.rotOk DK.valid at hr
    simp only [Bool.and_eq_true, decide_eq_true_eq] at hr
    obtain ⟨⟨r1, r2⟩, r3, r4, r5, r6⟩ := hr
    rw [e] at hok ⊢
    obtain ⟨E, hE⟩ : ∃ E, E = ({ D with st := fun i => if i = s.toNat then DK.flip (D.st i) a.toNat (UInt8.ofNat m.toNat) else D.st i } : DK) := ⟨_, rfl⟩
    rw [← hE] at hok ⊢
    have hm : UInt8.ofNat m.toNat ≠ 0 := fun h0 => by
      have := congrArg UInt8.toNat h0
      rw [UInt8.toNat_ofNat'] at this
      have h1 : (0 : UInt8).toNat = 0 := rfl
      omega
    have hq : E.q = [] := by rw [hE]; exact hl.q
    have hst : ∀ i, E.cur i = if i = s.toNat then DK.flip (D.cur i) a.toNat (UInt8.ofNat m.toNat) else D.cur i := fun i => by rw [cur_st hq, cur_st hl.q, hE]
    refine hurt_open h hl hN ⟨by rw [hE]; exact hl.on.off, by rw [hE]; exact hl.on.arm, hok⟩ hq (by rw [hE]) (s := s.toNat) (fun i _ hne => by rw [hst, if_neg hne]) (fun h2 k hk => ?_) (fun i hi hic => ?_)
    · rw [hst, if_pos rfl] at hk
      exact rot_head h one (by omega) (hl.neat s.toNat h2) (hl.on.cur_len (by omega)) (by omega) hm hk
    · rw [hst, if_pos rfl]
      obtain ⟨t, t1, _⟩ := hl.lies.fd
      obtain ⟨x, hx⟩ := found_piece t1 i hic
      rw [← hi] at hx
      exact rot_piece h.len one hx (by omega) hm
  · have e : D.rot s a m = D := by unfold DK.rot; rw [if_neg hr]
    rw [e]
    exact .inr ⟨D, hl.openJ⟩
section
variable (sm : Bytes → Bytes)
/-- What the sectors had before. -/
structure Eld (D : DK) (c : Nat) : Prop where
  hd : ∀ p, p < 2 → ∀ k, cnt sm p (D.el p) (D.n - 2) = some k → k ≤ c
  pc : ∀ i, i < c → piece sm (2 + i) (D.el (2 + i)) = none
end
theorem stale_open {sm : Bytes → Bytes} (h : Dig sm) {D : DK} {c : Nat} {l : List Bytes} (hl : Live sm D c l) (hN : D.n ≤ 40) (hel : Eld sm D c) (s : Int) : (∃ F, openJ sm (D.stale s) = ((25, none), F)) ∨ ∃ F, openJ sm (D.stale s) = ((0, some ⟨D.n, c, l, false⟩), F) := by
  have hok := DK.stale_ok hl.on.ok s
  by_cases hr : D.valid s = true
  · have e : D.stale s = { D with st := fun i => if i = s.toNat then D.el i else D.st i } := by unfold DK.stale; rw [if_pos hr]
    rw [e] at hok ⊢
    obtain ⟨E, hE⟩ : ∃ E, E = ({ D with st := fun i => if i = s.toNat then D.el i else D.st i } : DK) := ⟨_, rfl⟩
    rw [← hE] at hok ⊢
    have hq : E.q = [] := by rw [hE]; exact hl.q
    have hst : ∀ i, E.cur i = if i = s.toNat then D.el i else D.cur i := fun i => by rw [cur_st hq, cur_st hl.q, hE]
    refine hurt_open h hl hN ⟨by rw [hE]; exact hl.on.off, by rw [hE]; exact hl.on.arm, hok⟩ hq (by rw [hE]) (s := s.toNat) (fun i _ hne => by rw [hst, if_neg hne]) (fun h2 k hk => ?_) (fun i hi hic => ?_)
    · rw [hst, if_pos rfl] at hk
      exact hel.hd _ h2 k hk
    · rw [hst, if_pos rfl, hi]
      exact hel.pc i hic
  · have e : D.stale s = D := by unfold DK.stale; rw [if_neg hr]
    rw [e]
    exact .inr ⟨D, hl.openJ⟩
theorem eld_new {sm : Bytes → Bytes} (n : Nat) : Eld sm (DK.new n) 0 :=
  ⟨fun p _ k hk => by
    unfold cnt at hk
    rw [if_pos (show (DK.new n).el p = zero from rfl)] at hk
    injection hk with hk
    omega, fun i hi => by omega⟩
theorem steps_eld {sm : Bytes → Bytes} (hs : ∀ s, (sm s).length = 16) {D E : DK} (hu : Up D) {c : Nat} (hN : D.n ≤ 4000) (hn : Neat sm D c) (he : Eld sm D c) {ps : List Bytes} (hc : 2 + c + ps.length ≤ D.n) (h : steps D (plan sm c ps) = (0, E)) : Eld sm E (c + ps.length) := by
  have hbad : ∀ {X : DK}, ((24 : Int), X) = (0, E) → False := fun e => by injection e with e; cases e
  unfold plan steps at h
  rcases hu.put (2 + c) (ps.map (fun _ => zero)) (by rw [List.length_map]; exact hc) (fun s hs => by obtain ⟨x, _, rfl⟩ := List.mem_map.1 hs; exact zero_len) with ⟨A, e1, a1, a2, a3, a4⟩ | ⟨A, e1, _⟩
  rotate_left
  · rw [e1, if_pos (by show (24 : Int) ≠ 0; decide)] at h
    exact (hbad h).elim
  rw [e1, if_neg (fun h => h rfl)] at h
  unfold steps at h
  rcases a1.put (2 + c) (sectors sm (2 + c) ps) (by rw [sectors_len, a2]; exact hc) (sectors_64 hs _ _) with ⟨B, e2, b1, b2, b3, b4⟩ | ⟨B, e2, _⟩
  rotate_left
  · rw [e2, if_pos (by show (24 : Int) ≠ 0; decide)] at h
    exact (hbad h).elim
  rw [e2, if_neg (fun h => h rfl)] at h
  unfold steps at h
  rcases b1.put 1 [head sm 1 (c + ps.length)] (by rw [List.length_singleton]; omega) (fun x hx => by rw [List.mem_singleton.1 hx]; exact sealed_len hs _ _) with ⟨C, e3, c1, c2, c3, c4⟩ | ⟨C, e3, _⟩
  rotate_left
  · rw [e3, if_pos (by show (24 : Int) ≠ 0; decide)] at h
    exact (hbad h).elim
  rw [e3, if_neg (fun h => h rfl)] at h
  unfold steps at h
  rcases c1.put 0 [head sm 0 (c + ps.length)] (by rw [List.length_singleton]; omega) (fun x hx => by rw [List.mem_singleton.1 hx]; exact sealed_len hs _ _) with ⟨F, e4, d1, d2, d3, d4⟩ | ⟨F, e4, _⟩
  rotate_left
  · rw [e4, if_pos (by show (24 : Int) ≠ 0; decide)] at h
    exact (hbad h).elim
  rw [e4, if_neg (fun h => h rfl)] at h
  obtain rfl : F = E := by
    have h9 : ((0 : Int), F) = (0, E) := h
    injection h9
  have lA : (ps.map (fun _ => zero)).length = ps.length := List.length_map ..
  have lB : (sectors sm (2 + c) ps).length = ps.length := sectors_len ..
  have h4 := hu.ok.n1
  -- the heads
  have s0 : ∀ i, i < 2 → B.st i = D.st i := fun i hi => by rw [b3 i (by omega), if_neg (by omega), a3 i (by omega), if_neg (by omega)]
  refine ⟨fun p hp k hk => ?_, fun i hi => ?_⟩
  · have hel : F.el p = D.cur p := by
      rcases (by omega : p = 0 ∨ p = 1) with rfl | rfl
      · rw [d4 0, if_pos (by simp), c3 0 (by omega), if_neg (by simp), s0 0 (by decide), cur_st hu.q]
      · rw [d4 1, if_neg (by simp), c4 1, if_pos (by simp), s0 1 (by decide), cur_st hu.q]
    rw [hel, Good.cnt hs (hn p hp) (by omega) (by omega)] at hk
    injection hk with hk
    omega
  · rw [d4 (2 + i), if_neg (by rw [List.length_singleton]; omega), c4 (2 + i), if_neg (by rw [List.length_singleton]; omega), b4 (2 + i), lB]
    by_cases hic : i < c
    · rw [if_neg (by omega), a4 (2 + i), if_neg (by omega)]
      exact he.pc i hic
    · rw [if_pos (by omega), a3 (2 + i) (by omega), lA, if_pos (by omega)]
      have hz : (ps.map (fun _ => zero)).getD (2 + i - (2 + c)) [] = zero := by
        rw [List.getD_eq_getElem?_getD, List.getElem?_map, List.getElem?_eq_getElem (by omega)]
        rfl
      rw [hz]
      exact piece_zero hs _
/-- Records are added, and what was there before is known. -/
theorem Live.append_eld {sm : Bytes → Bytes} (hs : ∀ s, (sm s).length = 16) {D E : DK} {c : Nat} {l : List Bytes} (h : Live sm D c l) (he : Eld sm D c) (rs : List Bytes) {v : Int} {j : J} (ha : Jn.append sm ⟨D.n, c, l, false⟩ D rs = ((v, j), E)) : Eld sm E (if v = 0 then c + (pieces (text rs)).length else c) := by
  have h4 := h.lies.cn
  unfold Jn.append at ha
  rw [if_neg (by show ¬ false = true; decide)] at ha
  by_cases h1 : rs.any (fun r => decide (2000 < r.length)) = true
  · rw [if_pos h1] at ha
    injection ha with h5 h6
    injection h5 with h5 _
    rw [← h5, ← h6, if_neg (by decide)]
    exact he
  rw [if_neg h1] at ha
  by_cases h2 : room ⟨D.n, c, l, false⟩ < (pieces (text rs)).length
  · rw [if_pos h2] at ha
    injection ha with h5 h6
    injection h5 with h5 _
    rw [← h5, ← h6, if_neg (by decide)]
    exact he
  rw [if_neg h2] at ha
  by_cases h3 : rs = []
  · rw [if_pos h3] at ha
    injection ha with h5 h6
    injection h5 with h5 _
    rw [← h5, ← h6, if_pos rfl, h3]
    exact he
  rw [if_neg h3] at ha
  have hr : 2 + c + (pieces (text rs)).length ≤ D.n := by have : ¬ D.n - 2 - c < _ := h2; omega
  obtain ⟨F, f1, _⟩ := steps_on hs h.on hr (split_len _ _)
  simp only at ha
  rw [f1, if_neg (fun h => h rfl)] at ha
  injection ha with h5 h6
  injection h5 with h5 _
  rw [← h5, ← h6, if_pos rfl]
  exact steps_eld hs (h.on.up h.q) h.on.ok.n2 h.neat he hr f1
end Jn
end Go.Proofs.YtpmkgedlnanjiaaGreatDoor
