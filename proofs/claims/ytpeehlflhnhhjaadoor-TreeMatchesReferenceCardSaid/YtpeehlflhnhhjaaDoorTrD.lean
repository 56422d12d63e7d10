/-
  A region that draws its order, in a round of a range over a function: what is shown of it in the plain calculus holds there.
-/
import Derived.Test.YtpeehlflhnhhjaaDoorTrC
import Derived.OrdersIn
import Derived.Deep.RegionLaw
namespace Go.Proofs.YtpeehlflhnhhjaaDoor
set_option linter.unusedVariables false
set_option linter.unusedSimpArgs false
open Go Go.RowKit Go.Shelf

theorem rows_round {P : Program} {r : String} {args : Array Value} {w : World} {R : Value → World → Prop} {l n : Nat} (h : Rows P r args w R) : RowsIn (Fence.wide.inRound l) n P r args w R :=
  fun c cs _ => let ⟨v, w', hr, s⟩ := h c cs; ⟨v, w', hr, stepsIn_wide.2 s⟩
theorem oper_round {P : Program} {o : Oper} {a : Act} {w : World} {K : Act → World → Prop} {Q : Exit → Act → World → Prop} {l n : Nat} (hs : ∀ c, o.op ≠ .defer c)
    (h : o.wp P a w K Q) : o.wpIn (Fence.wide.inRound l) n P a w K Q := by
  refine ⟨fun _ _ => trivial, ?_⟩
  show o.uponIn (Fence.wide.inRound l) n P a K Q ((o.semAt (some l) a.eval).run P w)
  rw [Oper.semAt_eq _ _ _ hs]
  unfold Oper.wp at h
  generalize (execOp a.eval o).run P w = r at h
  match r, h with
  | .ok (.value v) w', h => exact h
  | .ok .skip w', h => exact h
  | .ok (.defer d) w', h => exact h
  | .ok (.enter f args) w', h => exact ⟨(fun h0 => by cases h0), CallsIn.inRound l (callsIn_wide.2 h)⟩
  | .ok (.row r args) w', h => exact ⟨(fun h0 => by cases h0), rows_round h⟩
  | .ok (.round ..) w', h => exact h.elim
  | .halt (.panic v) w', h => exact h
theorem any_round {P : Program} {md : Region.Mode} {ops : Array Oper} {Q : Exit → Act → World → Prop} {l n : Nat} (hops : ∀ (i : Nat) (o : Oper), ops[i]? = some o → ∀ c, o.op ≠ .defer c) (hno : ¬ LetsOut Q) :
    ∀ (fuel : Nat) (listed : Array Bool) (a : Act) (w : World), wpAny P md ops Q fuel listed a w → wpAnyIn (Fence.wide.inRound l) n P md ops Q fuel listed a w := by
  intro fuel
  induction fuel with
  | zero => exact fun _ _ _ h => h
  | succ fuel ih =>
    intro listed a w h
    refine ⟨h.1, fun i hi => ?_⟩
    have hw := h.2 i hi
    unfold wpOp at hw
    unfold wpOpIn
    cases ho : ops[i]? with
    | none => rw [ho] at hw; exact ih _ _ _ hw
    | some o =>
      rw [ho] at hw
      simp only at hw ⊢
      by_cases hwant : Region.wanted o (yielded ops a.tmps) = true
      · rw [if_pos hwant] at hw ⊢
        rcases hw with hw | hw
        · exact Oper.wpIn_mono (ih _) (oper_round (hops i o ho) hw)
        · exact absurd hw.2 hno
      · rw [if_neg hwant] at hw ⊢
        exact ⟨fun _ _ => trivial, ih _ _ _ hw⟩
theorem region_round {P : Program} {id : Nat} {ops : Array Oper} {Q : Exit → Act → World → Prop} {a : Act} {w : World} {l n : Nat} (hm : P.follows .mixedOrders = true) (hops : ∀ (i : Nat) (o : Oper), ops[i]? = some o → ∀ c, o.op ≠ .defer c) (hno : ¬ LetsOut Q)
    (h : wpAny P .any ops Q ops.size (Array.replicate ops.size false) a w.drew) : (Code.region id ops true).wpIn (Fence.wide.inRound l) n P Q a w :=
  wpIn_region_any hm (any_round hops hno _ _ _ _ h)
def noDefer (o : Oper) : Bool := match o.op with
  | .defer _ => false
  | _ => true
theorem region_round' {P : Program} {id : Nat} {ops : Array Oper} {Q : Exit → Act → World → Prop} {a : Act} {w : World} {l n : Nat} (hm : P.follows .mixedOrders = true) (hops : ops.all noDefer = true) (hno : ¬ LetsOut Q)
    (h : wpAny P .any ops Q ops.size (Array.replicate ops.size false) a w.drew) : (Code.region id ops true).wpIn (Fence.wide.inRound l) n P Q a w :=
  region_round hm (fun i o ho c hc => by
    have h1 := Array.all_eq_true.1 hops i (Array.getElem?_eq_some_iff.1 ho).1
    rw [(Array.getElem?_eq_some_iff.1 ho).2] at h1
    unfold noDefer at h1
    rw [hc] at h1
    cases h1) hno h
end Go.Proofs.YtpeehlflhnhhjaaDoor
