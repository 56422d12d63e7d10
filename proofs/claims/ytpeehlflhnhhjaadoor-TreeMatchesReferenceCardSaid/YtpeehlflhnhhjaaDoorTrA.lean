/-
  Layer 4: leaves and nodes, and the contract of Check.
-/
import Derived.Test.YtpeehlflhnhhjaaDoorDgE
import Derived.Laws.BitsAllLaws
namespace Go.Proofs.YtpeehlflhnhhjaaDoor
set_option linter.unusedVariables false
set_option linter.unusedSimpArgs false
open Go Go.RowKit

namespace Tr
def leaf (t : Bytes) : Bytes := Dg.list [[108, 101, 97, 102], t]
def node (a b : Bytes) : Bytes := Dg.list [[110, 111, 100, 101], a, b]
def none : Bytes := Dg.list [[110, 111, 110, 101]]
/-- The place beside place i. -/
def sib (i : Nat) : Nat := if i % 2 = 0 then i + 1 else i - 1
theorem xor_one (i : Nat) : i ^^^ 1 = sib i := by
  have h1 : (i ^^^ 1) / 2 = i / 2 := by
    have := Nat.xor_div_two_pow (a := i) (b := 1) (n := 1)
    simpa using this
  have h2 : (i ^^^ 1) % 2 = (i + 1) % 2 := by
    have := Nat.xor_mod_two_pow (a := i) (b := 1) (n := 1)
    simp only [Nat.pow_one] at this
    rw [this]
    rcases Nat.mod_two_eq_zero_or_one i with h | h
    · rw [h, show (i + 1) % 2 = 1 by omega]; rfl
    · rw [h, show (i + 1) % 2 = 0 by omega]; rfl
  unfold sib
  split <;> omega
/-- The way upwards from a leaf, in a tree of n elements. -/
def climb : Nat → Nat → Nat → Bytes → List Bytes → Option (Bytes × List Bytes)
  | 0, _, _, at_, path => some (at_, path)
  | f + 1, n, i, at_, path =>
    if n ≤ 1 then some (at_, path)
    else if n ≤ sib i then climb f (n - n / 2) (i / 2) at_ path
    else match path with
      | [] => Option.none
      | p :: ps => climb f (n - n / 2) (i / 2) (if i % 2 = 0 then node at_ p else node p at_) ps
theorem climb_end (f n i : Nat) (y : Bytes) (ps : List Bytes) (h : n ≤ 1) : climb f n i y ps = some (y, ps) := by
  cases f with
  | zero => rfl
  | succ f => unfold climb; rw [if_pos h]
theorem climb_skip (f n i : Nat) (y : Bytes) (ps : List Bytes) (h : ¬ n ≤ 1) (h2 : n ≤ sib i) : climb (f + 1) n i y ps = climb f (n - n / 2) (i / 2) y ps := by
  show (if n ≤ 1 then _ else if n ≤ sib i then _ else _) = _
  rw [if_neg h, if_pos h2]
theorem climb_stop (f n i : Nat) (y : Bytes) (h : ¬ n ≤ 1) (h2 : ¬ n ≤ sib i) : climb (f + 1) n i y [] = Option.none := by
  show (if n ≤ 1 then _ else if n ≤ sib i then _ else _) = _
  rw [if_neg h, if_neg h2]
theorem climb_go (f n i : Nat) (y p : Bytes) (ps : List Bytes) (h : ¬ n ≤ 1) (h2 : ¬ n ≤ sib i) : climb (f + 1) n i y (p :: ps) = climb f (n - n / 2) (i / 2) (if i % 2 = 0 then node y p else node p y) ps := by
  show (if n ≤ 1 then _ else if n ≤ sib i then _ else _) = _
  rw [if_neg h, if_neg h2]
def check (root : Bytes) (n i : Int) (t : Bytes) (path : List Bytes) : Bool :=
  if n < 1 ∨ i < 0 ∨ n ≤ i then false
  else match climb n.toNat n.toNat i.toNat (leaf t) path with
    | Option.none => false
    | some (at_, ps) => decide (ps = [] ∧ at_ = root)
theorem leaf_len (t : Bytes) : (leaf t).length = 16 := Dg.sum_len _
theorem node_len (a b : Bytes) : (node a b).length = 16 := Dg.sum_len _
end Tr

theorem xor_i64 (i : Nat) (h : i < 9223372036854775808) : bits .xor .i64 (i : Int) 1 = ((Tr.sib i : Nat) : Int) := by
  rw [← Tr.xor_one]
  have hx : i ^^^ 1 < 2 ^ 63 := Nat.xor_lt_two_pow (by omega) (by decide)
  show IntKind.i64.wrap ((BitVec.ofInt 64 (i : Int) ^^^ BitVec.ofInt 64 ((1 : Nat) : Int)).toNat : Int) = _
  rw [BitVec.toNat_xor, ofInt_u64 i (by omega), ofInt_u64 1 (by omega)]
  exact IntWalk.i64_in _ (by omega)

theorem of_spec (w : World) (HL : Hid (Laid w)) (v : Value) (l : List Bytes) (HV : Hid (Strs w v l)) (hl : l.length ≤ 900) (HB : Hid (∀ x ∈ l, x.length ≤ 1000000)) :
    Calls Tryd.prog 25 #[v] w fun e w' => e = .returned (.string ⟨(Dg.list l).toArray⟩) ∧ Chg [] w w' := by
  go_enter Tryd.func25, Tryd.ntmps25
  go_wp2_with fail
  refine (list_spec w HL v l HV hl HB).mono ?_
  rintro e w2 ⟨rfl, hc⟩
  have HC := Lib.hid hc
  clear hc
  go_wp2_with fail
  go_ret
  exact ⟨rfl, HC.out⟩
theorem two_strs (w : World) (a b : Bytes) : Strs (w.alloc (.cells #[.string ⟨a.toArray⟩, .string ⟨b.toArray⟩] 9)) (.slice (some ⟨w.heap.size, 0, none⟩) 2 2) [a, b] :=
  Strs.blk (Blk.new w [vstr a, vstr b] 9) rfl
theorem three_strs (w : World) (a b c : Bytes) : Strs (w.alloc (.cells #[.string ⟨a.toArray⟩, .string ⟨b.toArray⟩, .string ⟨c.toArray⟩] 9)) (.slice (some ⟨w.heap.size, 0, none⟩) 3 3) [a, b, c] :=
  Strs.blk (Blk.new w [vstr a, vstr b, vstr c] 9) rfl
theorem one_strs (w : World) (a : Bytes) : Strs (w.alloc (.cells #[.string ⟨a.toArray⟩] 9)) (.slice (some ⟨w.heap.size, 0, none⟩) 1 1) [a] :=
  Strs.blk (Blk.new w [vstr a] 9) rfl
theorem all2 {a b : Bytes} {n : Nat} (ha : a.length ≤ n) (hb : b.length ≤ n) : ∀ x ∈ [a, b], x.length ≤ n := by
  intro x hx
  simp only [List.mem_cons, List.not_mem_nil, or_false] at hx
  rcases hx with rfl | rfl
  · exact ha
  · exact hb
theorem all3 {a b c : Bytes} {n : Nat} (ha : a.length ≤ n) (hb : b.length ≤ n) (hc : c.length ≤ n) : ∀ x ∈ [a, b, c], x.length ≤ n := by
  intro x hx
  simp only [List.mem_cons, List.not_mem_nil, or_false] at hx
  rcases hx with rfl | rfl | rfl
  · exact ha
  · exact hb
  · exact hc
theorem leaf_spec (w : World) (HL : Hid (Laid w)) (t : Bytes) (ht : t.length ≤ 1000000) :
    Calls Tryd.prog 20 #[.string ⟨t.toArray⟩] w fun e w' => e = .returned (.string ⟨(Tr.leaf t).toArray⟩) ∧ Chg [] w w' := by
  go_enter Tryd.func20, Tryd.ntmps20
  go_wp2_with fail
  have HA : Hid (Chg [] w (w.alloc (.cells #[.string ⟨#[108, 101, 97, 102]⟩, .string ⟨t.toArray⟩] 9))) := Lib.hid ((Chg.refl _ _).alloc _)
  refine (list_spec _ (Lib.hid (HL.out.quiet HA.out)) _ [[108, 101, 97, 102], t] (Lib.hid (two_strs w [108, 101, 97, 102] t)) (by simp) (Lib.hid (all2 (by decide) ht))).mono ?_
  rintro e w2 ⟨rfl, hc⟩
  have HC := Lib.hid (HA.out.trans hc (by simp))
  clear hc
  go_wp2_with fail
  go_ret
  exact ⟨rfl, HC.out⟩
theorem node_spec (w : World) (HL : Hid (Laid w)) (a b : Bytes) (ha : a.length ≤ 1000000) (hb : b.length ≤ 1000000) :
    Calls Tryd.prog 19 #[.string ⟨a.toArray⟩, .string ⟨b.toArray⟩] w fun e w' => e = .returned (.string ⟨(Tr.node a b).toArray⟩) ∧ Chg [] w w' := by
  go_enter Tryd.func19, Tryd.ntmps19
  go_wp2_with fail
  have HA : Hid (Chg [] w (w.alloc (.cells #[.string ⟨#[110, 111, 100, 101]⟩, .string ⟨a.toArray⟩, .string ⟨b.toArray⟩] 9))) := Lib.hid ((Chg.refl _ _).alloc _)
  refine (list_spec _ (Lib.hid (HL.out.quiet HA.out)) _ [[110, 111, 100, 101], a, b] (Lib.hid (three_strs w [110, 111, 100, 101] a b)) (by simp) (Lib.hid (all3 (by decide) ha hb))).mono ?_
  rintro e w2 ⟨rfl, hc⟩
  have HC := Lib.hid (HA.out.trans hc (by simp))
  clear hc
  go_wp2_with fail
  go_ret
  exact ⟨rfl, HC.out⟩
theorem Strs.rest {w : World} {ao : Option Addr} {n cap : Nat} {p : Bytes} {ps : List Bytes} (h : Strs w (.slice ao n cap) (p :: ps)) : ∃ g off, ao = some ⟨g, off, none⟩ ∧ 1 ≤ cap ∧ w.cell? ⟨g, off, none⟩ = some (.string ⟨p.toArray⟩) ∧ Strs w (.slice (if cap = 1 then some ⟨g, off, none⟩ else some ⟨g, off + 1, none⟩) ps.length (cap - 1)) ps := by
  obtain ⟨ao', cap', he, hle, h2⟩ := h
  simp only [Value.slice.injEq, List.length_cons] at he
  obtain ⟨rfl, rfl, rfl⟩ := he
  rw [List.length_cons] at hle
  obtain ⟨g, off, rfl, h3⟩ := h2 0 p rfl
  refine ⟨g, off, rfl, by omega, h3, ⟨_, _, rfl, by omega, fun i x hx => ?_⟩⟩
  have hi := (List.getElem?_eq_some_iff.1 hx).1
  rw [if_neg (by omega)]
  refine ⟨g, off + 1, rfl, ?_⟩
  obtain ⟨g', off', he, h4⟩ := h2 (i + 1) x (by simpa using hx)
  simp only [Option.some.injEq, Addr.mk.injEq, and_true] at he
  obtain ⟨rfl, rfl⟩ := he
  rw [show off + 1 + i = off + (i + 1) by omega]
  exact h4
theorem check_out (w : World) (root : ByteArray) (n i : Int) (t : ByteArray) (v : Value) (h : n < 1 ∨ i < 0 ∨ n ≤ i) :
    Calls Tryd.prog 16 #[.string root, .int .i64 n, .int .i64 i, .string t, v] w fun e w' => e = .returned (.bool false) ∧ Chg [] w w' := by
  by_cases h1 : n < 1
  · clear h
    go_enter Tryd.func16, Tryd.ntmps16
    go_wp2_with fail
    go_ret
    exact ⟨rfl, Chg.refl _ _⟩
  · have h1' : 1 ≤ n := by omega
    by_cases h2 : i < 0
    · clear h
      go_enter Tryd.func16, Tryd.ntmps16
      go_wp2_with fail
      go_ret
      exact ⟨rfl, Chg.refl _ _⟩
    · have h2' : 0 ≤ i := by omega
      have h3 : n ≤ i := by omega
      clear h
      go_enter Tryd.func16, Tryd.ntmps16
      go_wp2_with fail
      go_ret
      exact ⟨rfl, Chg.refl _ _⟩

set_option maxHeartbeats 4000000 in
theorem check_in (w : World) (HL : Hid (Laid w)) (root t : Bytes) (N I : Nat) (path : List Bytes) (v : Value) (HV : Hid (Strs w v path)) (ht : t.length ≤ 1000000) (hp : path.length ≤ 1000000) (HB : Hid (∀ x ∈ path, x.length ≤ 1000000))
    (hN : N ≤ 9223372036854775807) (hIN : I < N) :
    Calls Tryd.prog 16 #[.string ⟨root.toArray⟩, .int .i64 (N : Int), .int .i64 (I : Int), .string ⟨t.toArray⟩, v] w fun e w' => e = .returned (.bool (Tr.check root N I t path)) ∧ Chg [] w w' := by
  have HCK : Hid (Tr.check root (N : Int) (I : Int) t path = match Tr.climb N N I (Tr.leaf t) path with
    | Option.none => false
    | some (at_, ps) => decide (ps = [] ∧ at_ = root)) := Lib.hid (by
    unfold Tr.check
    rw [if_neg (by omega)]
    simp)
  have g1 : (1 : Int) ≤ (N : Int) := by omega
  have g2 : (0 : Int) ≤ (I : Int) := by omega
  have g3 : ¬ N ≤ I := by omega
  obtain ⟨ao, cap, rfl, _, _⟩ := HV.out
  go_enter Tryd.func16, Tryd.ntmps16
  go_wp2_with fail
  have HA : Hid (Chg [] w (w.alloc (.cells #[.string ⟨#[108, 101, 97, 102]⟩, .string ⟨t.toArray⟩] 9))) := Lib.hid ((Chg.refl _ _).alloc _)
  refine (of_spec _ (Lib.hid (HL.out.quiet HA.out)) _ [[108, 101, 97, 102], t] (Lib.hid (two_strs w [108, 101, 97, 102] t)) (by simp) (Lib.hid (all2 (by decide) ht))).mono ?_
  rintro e w2 ⟨rfl, hc⟩
  have HC := Lib.hid (HA.out.trans hc (by simp))
  clear hc
  go_wp2_with fail
  go_loopw [1, 2, 4, 11] (fun a b pv at_ wr => ∃ (f n i : Nat) (ps : List Bytes) (y : Bytes) (ao : Option Addr) (cap : Nat), a = .int .i64 (n : Int) ∧ b = .int .i64 (i : Int) ∧ pv = .slice ao ps.length cap ∧ at_ = .string ⟨y.toArray⟩ ∧ n ≤ 9223372036854775807 ∧ i < n ∧ n ≤ f ∧ Strs wr pv ps ∧ (∀ x ∈ ps, x.length ≤ 1000000) ∧ y.length ≤ 1000000 ∧ Tr.climb N N I (Tr.leaf t) path = Tr.climb f n i y ps ∧ Chg [] w wr) (fun a _ _ _ _ => (intOf a).toNat)
  case atStart => exact ⟨N, N, I, path, Tr.leaf t, _, _, rfl, rfl, rfl, rfl, hN, hIN, Nat.le_refl _, HV.out.quiet HC.out, HB.out, by rw [Tr.leaf_len]; decide, rfl, HC.out⟩
  case round =>
    obtain ⟨f, n, i, ps, y, ao, cap, rfl, rfl, rfl, rfl, hn, hin, hnf, hS, hb, hy, hcl, hC⟩ := hrel
    have HS := Lib.hid hS
    have HBB := Lib.hid hb
    have HY := Lib.hid hy
    have HCL := Lib.hid hcl
    have HC1 := Lib.hid hC
    clear hS hb hy hcl hC HC
    by_cases hn1 : n ≤ 1
    · have HE : Hid (Tr.check root (N : Int) (I : Int) t path = decide (ps = [] ∧ y = root)) := Lib.hid (by
        rw [HCK.out, HCL.out, Tr.climb_end _ _ _ _ _ hn1])
      cases ps with
      | nil =>
        by_cases hyr : y = root
        · have hb : (y == root) = true := by simpa using hyr
          have HE2 : Hid (Tr.check root (N : Int) (I : Int) t path = true) := Lib.hid (by rw [HE.out]; exact decide_eq_true ⟨rfl, hyr⟩)
          clear hyr
          go_wp2_with fail
          go_ret
          exact ⟨by rw [HE2.out]; rfl, HC1.out⟩
        · have hb : (y == root) = false := by simpa using hyr
          have HE2 : Hid (Tr.check root (N : Int) (I : Int) t path = false) := Lib.hid (by rw [HE.out]; exact decide_eq_false (fun h => hyr h.2))
          clear hyr
          go_wp2_with fail
          go_ret
          exact ⟨by rw [HE2.out]; rfl, HC1.out⟩
      | cons p ps =>
        have HE2 : Hid (Tr.check root (N : Int) (I : Int) t path = false) := Lib.hid (by rw [HE.out]; exact decide_eq_false (fun h => by cases h.1))
        go_wp2_with fail
        go_ret
        exact ⟨by rw [HE2.out]; rfl, HC1.out⟩
    · obtain ⟨f, rfl⟩ : ∃ f', f = f' + 1 := ⟨f - 1, by omega⟩
      have hx := xor_i64 i (by omega)
      obtain ⟨s, hs⟩ : ∃ s, s = Tr.sib i := ⟨_, rfl⟩
      rw [← hs] at hx
      have HSI := Lib.hid hs
      have HN1 := Lib.hid hn1
      have hn1' : 1 < n := by omega
      clear hs hn1
      by_cases hsn : n ≤ s
      · have HSN := Lib.hid (Tr.climb_skip f n i y ps HN1.out (by rw [← HSI.out]; exact hsn))
        go_wp2_with fail
        go_roundw
        case rel => exact ⟨f, n - n / 2, i / 2, ps, y, ao, cap, by go_num, by go_num, rfl, rfl, by omega, by omega, by omega, HS.out, HBB.out, HY.out, by rw [HCL.out, HSN.out], HC1.out⟩
        case measure => simp [intOf]; omega
      · cases ps with
        | nil =>
          have HE : Hid (Tr.check root (N : Int) (I : Int) t path = false) := Lib.hid (by
            rw [HCK.out, HCL.out, Tr.climb_stop f n i y HN1.out (by rw [← HSI.out]; exact hsn)])
          go_wp2_with fail
          go_ret
          exact ⟨by rw [HE.out]; rfl, HC1.out⟩
        | cons p ps =>
          have HSN := Lib.hid (Tr.climb_go f n i y p ps HN1.out (by rw [← HSI.out]; exact hsn))
          obtain ⟨g, off, rfl, hcap, c0, hrest⟩ := HS.out.rest
          have HRE := Lib.hid hrest
          have hpl : p.length ≤ 1000000 := HBB.out p (by simp)
          have HB2 : Hid (∀ x ∈ ps, x.length ≤ 1000000) := Lib.hid (fun x hx => HBB.out x (by simp [hx]))
          have HPL := Lib.hid hpl
          clear hrest hpl
          obtain ⟨m, hm⟩ : ∃ m, m = ps.length := ⟨_, rfl⟩
          rw [List.length_cons, ← hm] at HS ⊢
          have HM := Lib.hid hm
          rw [← hm] at HRE
          clear hm
          by_cases hi2 : i % 2 = 0
          · have hir : ((i : Int) % 2 == 0) = true := by rw [beq_iff_eq]; omega
            have HI2 := Lib.hid hi2
            clear hi2
            go_wp2_with fail
            have HA1 : Hid (Chg [] wr (wr.alloc (.cells #[.string ⟨#[110, 111, 100, 101]⟩, .string ⟨y.toArray⟩, .string ⟨p.toArray⟩] 9))) := Lib.hid ((Chg.refl _ _).alloc _)
            refine (of_spec _ (Lib.hid ((HL.out.quiet HC1.out).quiet HA1.out)) _ [[110, 111, 100, 101], y, p] (Lib.hid (three_strs wr [110, 111, 100, 101] y p)) (by simp) (Lib.hid (all3 (by decide) HY.out HPL.out))).mono ?_
            rintro e w5 ⟨rfl, hc⟩
            have HC5 := Lib.hid (HA1.out.trans hc (by simp))
            clear hc c0
            go_wp2_with fail
            go_roundw
            case rel => exact ⟨f, n - n / 2, i / 2, ps, _, _, _, by go_num, by go_num, by rw [HM.out], rfl, by omega, by omega, by omega, by have h := HRE.out.quiet HC5.out; first | exact h | (rw [HM.out] at h; exact h), HB2.out, by rw [show Dg.list [[110, 111, 100, 101], y, p] = Tr.node y p from rfl, Tr.node_len]; decide, by rw [HCL.out, HSN.out, if_pos HI2.out]; rfl, HC1.out.trans HC5.out (by simp)⟩
            case measure => simp [intOf]; omega
          · have hir : ((i : Int) % 2 == 0) = false := by rw [beq_eq_false_iff_ne]; omega
            have HI2 := Lib.hid hi2
            clear hi2
            go_wp2_with fail
            have HA1 : Hid (Chg [] wr (wr.alloc (.cells #[.string ⟨#[110, 111, 100, 101]⟩, .string ⟨p.toArray⟩, .string ⟨y.toArray⟩] 9))) := Lib.hid ((Chg.refl _ _).alloc _)
            refine (of_spec _ (Lib.hid ((HL.out.quiet HC1.out).quiet HA1.out)) _ [[110, 111, 100, 101], p, y] (Lib.hid (three_strs wr [110, 111, 100, 101] p y)) (by simp) (Lib.hid (all3 (by decide) HPL.out HY.out))).mono ?_
            rintro e w5 ⟨rfl, hc⟩
            have HC5 := Lib.hid (HA1.out.trans hc (by simp))
            clear hc c0
            go_wp2_with fail
            go_roundw
            case rel => exact ⟨f, n - n / 2, i / 2, ps, _, _, _, by go_num, by go_num, by rw [HM.out], rfl, by omega, by omega, by omega, by have h := HRE.out.quiet HC5.out; first | exact h | (rw [HM.out] at h; exact h), HB2.out, by rw [show Dg.list [[110, 111, 100, 101], p, y] = Tr.node p y from rfl, Tr.node_len]; decide, by rw [HCL.out, HSN.out, if_neg HI2.out]; rfl, HC1.out.trans HC5.out (by simp)⟩
            case measure => simp [intOf]; omega
end Go.Proofs.YtpeehlflhnhhjaaDoor
