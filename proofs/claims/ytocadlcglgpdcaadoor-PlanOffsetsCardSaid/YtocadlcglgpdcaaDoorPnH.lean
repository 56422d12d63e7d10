/-
  Plan, layer 8: a look-up with its second result, in a map that is written out.
-/
import Derived.Test.YtocadlcglgpdcaaDoorPnG
import Derived.Test.YtocadlcglgpdcaaDoorMpA
namespace Go.Proofs.YtocadlcglgpdcaaDoor
set_option linter.unusedVariables false
set_option linter.unusedSimpArgs false
open Go Go.RowKit Go.Shelf Go.MapKept
def foundIn (d : TypeDesc) (key : Value) (es : List MapEntry) : Bool := match Instr.findNow d key es 0 with
  | some (some _) => true
  | _ => false
theorem run_look2 {P : Program} {w : World} {T K E : TypeId} {d : TypeDesc} (hu : P.underlying T = some (.map K E)) (hk : P.underlying K = some d) {z : Value} (hz : (zeroValue E).run P w = .ok z w) {b : Nat} {es : List MapEntry} {ck : Nat} (hb : MapB w b es ck)
    {key : Value} (hkey : IsKey d key) (hes : ∀ x ∈ es, IsKey d x.key) : (Instr.lookup T (.map (some b)) key true).run P w = .ok (.tuple #[lookIn d key es z, .bool (foundIn d key es)]) w := by
  have hb' : w.heap[b]? = some (.map es.toArray ck) := hb
  have h1 := run_checkKey (P := P) (w := w) hk hkey es.isEmpty 9999
  rcases findNow_spec hkey es 0 hes with ⟨hf, _⟩ | ⟨j, e, hf, _, _⟩
  · have h2 := run_findKey (P := P) (w := w) hk hf
    simp [Instr.lookup, run_underlying hu, Result.andThen, MapKept.run_getObj_map hb', h1, h2, hz, lookIn, foundIn, hf]
  · have h2 := run_findKey (P := P) (w := w) hk hf
    simp [Instr.lookup, run_underlying hu, Result.andThen, MapKept.run_getObj_map hb', h1, h2, lookIn, foundIn, hf]
theorem foundIn_kvS (t : List UInt8) : ∀ (l : List (List UInt8)) (k ck i : Nat), 0 < k → (match Instr.findNow .string (.string ⟨t.toArray⟩) (entsOf ck (kvS l k)) i with
    | some (some _) => true
    | _ => false) = decide (numIn l k t ≠ 0)
  | [], k, ck, i, _ => rfl
  | x :: l, k, ck, i, hk => by
    rw [kvS, entsOf, Instr.findNow, sameNow_str, numIn]
    by_cases h : t = x
    · rw [if_pos h, decide_eq_true h]
      simp
      omega
    · rw [if_neg h, decide_eq_false h]
      exact foundIn_kvS t l (k + 1) (ck + 1) (i + 1) (by omega)
theorem run_look2_kvS {P : Program} {w : World} {T K E : TypeId} (hu : P.underlying T = some (.map K E)) (hk : P.underlying K = some .string) (hz : (zeroValue E).run P w = .ok (.int .i64 0) w) {b ck : Nat} {l : List (List UInt8)} (hb : MapB w b (entsFrom [] 0 (kvS l 1)) ck)
    (t : List UInt8) : (Instr.lookup T (.map (some b)) (.string ⟨t.toArray⟩) true).run P w = .ok (.tuple #[.int .i64 (numIn l 1 t : Nat), .bool (decide (numIn l 1 t ≠ 0))]) w := by
  have h := run_look2 hu hk hz hb (d := .string) (key := .string ⟨t.toArray⟩) trivial (by rw [entsFrom_eq]; exact entsOf_key l 1 0)
  rw [look_kvS t l] at h
  have h2 : foundIn .string (.string ⟨t.toArray⟩) (entsFrom [] 0 (kvS l 1)) = decide (numIn l 1 t ≠ 0) := by
    rw [entsFrom_eq]
    exact foundIn_kvS t l 1 0 0 (by omega)
  rw [h2] at h
  exact h
theorem numIn_codeIn (t : List UInt8) : ∀ (l : List (List UInt8)) (k : Nat), numIn l k t = Rl.codeIn l k t
  | [], _ => rfl
  | x :: r, k => by
    rw [numIn, Rl.codeIn, numIn_codeIn t r (k + 1)]
theorem zero_int (w : World) : (zeroValue 3).run Tryd.prog w = .ok (.int .i64 0) w := by kernel_rfl
theorem look_marks {w : World} {b ck : Nat} (hb : MapB w b (entsFrom [] 0 (kvS Pn.marksL 1)) ck) (t : Bytes) : (Instr.lookup 130 (.map (some b)) (.string ⟨t.toArray⟩) true).run Tryd.prog w = .ok (.tuple #[.int .i64 (Rl.codeIn Pn.marksL 1 t : Nat), .bool (decide (Rl.codeIn Pn.marksL 1 t ≠ 0))]) w := by
  have := run_look2_kvS (P := Tryd.prog) Tryd.underlying130 Tryd.underlying9 (zero_int w) hb t
  rw [numIn_codeIn] at this
  exact this
end Go.Proofs.YtocadlcglgpdcaaDoor
