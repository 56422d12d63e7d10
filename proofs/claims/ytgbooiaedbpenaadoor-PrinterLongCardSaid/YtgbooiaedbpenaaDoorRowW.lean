/-
  Chapter 08: a row that comes in.
-/
import Derived.Test.YtgbooiaedbpenaaDoorRowP
import Derived.Test.YtgbooiaedbpenaaDoorPrIw
namespace Go.Proofs.YtgbooiaedbpenaaDoor
set_option linter.unusedVariables false
set_option linter.unusedSimpArgs false
set_option maxRecDepth 100000
open Go Go.RowKit Go.ChangeShapes Go.WideShapes Go.ChangeShapes
theorem bd_u16 {n : Int} (h : (Lit.int .u16 n).wf = true) : 0 ≤ n ∧ n ≤ 65535 := by
  simpa [Lit.wf, IntKind.min, IntKind.max, IntKind.signed, IntKind.bits] using h
section
variable {H : Type} {enc : TypeId × Value → H} {w : World} {base b0 : Nat} {spare : Nat → Bool} {held : Bool}
theorem open_row {v : Value} {d : DataW H} {p : List MemPlace} (hv : Value.okWide Tryd.prog w .any b0 40 v) (hz : Sz Tryd.prog 40 d) (h : DataW.Trod enc Tryd.prog w base spare held 40 v d p) :
    ∃ (x : Pr.Rw) (ao : Option Addr) (cap n : Nat), v = .agg #[.string ⟨x.name.toArray⟩, .int .i64 x.x, .int .i64 x.y, .int .i64 x.f, .int .i64 x.t, .int .i64 x.step, .slice ao n cap, .int .i64 x.at_] ∧ InW w x ao cap n := by
  obtain ⟨cs, rfl, _⟩ := okWide_struct Tryd.underlying40 hv
  obtain ⟨fuel, hf⟩ := h
  obtain ⟨l⟩ := cs
  obtain ⟨x, mv, rfl, hr, i1, i2, i3, i4, i5, hn⟩ := rd_rw (y := (d, p)) hz hf
  obtain ⟨ao, cap, rfl, _, hrc⟩ := hr.form
  exact ⟨x, ao, cap, _, rfl, ⟨rfl, hr, ⟨i1, i2, i3, i4, i5⟩, hrc, hn⟩⟩
end
end Go.Proofs.YtgbooiaedbpenaaDoor
