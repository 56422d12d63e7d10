/-
  Chapter 44: from what the rows list to the tables; the operations and texts that come in.
-/
import Derived.Test.YtpmkgedlnanjiaaGreatDoorRows
import Derived.Test.YtpmkgedlnanjiaaGreatDoorJpC
import Derived.SliceStrings
import Derived.LaidMore
import Derived.Stop.Joined
import Derived.Stop.LaidErr
import Derived.ProofKit
import Derived.OpenShut
import Derived.ShutString
import Derived.Deep.Slices
import Derived.Deep.Fields
import Derived.ChangeSame
import Derived.Below
import Derived.Lib.SmallJoins
import Derived.Shelf.Vars
namespace Go.Proofs.YtpmkgedlnanjiaaGreatDoor
set_option linter.unusedVariables false
set_option linter.unusedSimpArgs false
set_option maxRecDepth 100000
open Go Go.RowKit Go.ChangeShapes Go.WideShapes Go.Deep

def laidL : List (String × DataW Unit) := [("math/bits.deBruijn32tab", Rows.laid_math_bits_deBruijn32tab), ("math/bits.deBruijn64tab", Rows.laid_math_bits_deBruijn64tab), ("internal/strconv.uint64pow10", Rows.laid_internal_strconv_uint64pow10), ("strconv.ErrRange", Rows.laid_strconv_ErrRange), ("strconv.ErrSyntax", Rows.laid_strconv_ErrSyntax), ("foyer/digest.hex", Rows.laid_foyer_digest_hex)]
theorem door_met (os : Os) (args : Array Value) : laidMetH Tryz.prog laidL ((World.doorLaid Tryz.prog 400 os).forCall (fun _ _ => 0) ⟨#[], args, []⟩).memory :=
  laidMetH_of_parts3 (fuel := 8) (laidMet_of_run' 8 (by kernel_rfl) (by kernel_rfl)) (by kernel_rfl) (by kernel_rfl)
theorem star44 : "*" ++ "errors.errorString" = "*errors.errorString" := by decide
theorem row_err (u : TypeId) (h : Tryz.prog.typeName? 3 u = some "*errors.errorString") : u = 141 :=
  typeName_ptr_named (nm := "errors.errorString") (by rw [star44]; kernel_rfl) (by kernel_rfl) (by decide) u (by rw [star44]; exact h)
theorem glob_rng : Tryz.prog.globalNamed "strconv.ErrRange" = some 1 := by kernel_rfl
theorem glob_syn : Tryz.prog.globalNamed "strconv.ErrSyntax" = some 0 := by kernel_rfl
theorem of_laid {W : World} (h : laidMetH Tryz.prog laidL W) (hs : W.ShapedOpen Tryz.prog) : Laid W := by
  rw [MakeChecks.laidMetH_plain _ _ _ (by kernel_rfl)] at h
  have h3 := h.tail.tail
  have h4 := h3.tail
  have h5 := h4.tail
  have h6 := h5.tail
  obtain ⟨a0, s0, hv0, -⟩ := laid_sentinel (ti := 60) (tp := 141) (te := 143) (ts := 9) h4 glob_rng (by kernel_rfl) Tryz.underlying60 row_err Tryz.underlying141 Tryz.underlying143 rfl rfl Tryz.underlying9 (by kernel_rfl) (by kernel_rfl)
  obtain ⟨a1, s1, hv1, -⟩ := laid_sentinel (ti := 60) (tp := 141) (te := 143) (ts := 9) h5 glob_syn (by kernel_rfl) Tryz.underlying60 row_err Tryz.underlying141 Tryz.underlying143 rfl rfl Tryz.underlying9 (by kernel_rfl) (by kernel_rfl)
  have c0 := World.var?_cell glob_rng hv0 0
  have c1 := World.var?_cell glob_syn hv1 0
  exact ⟨Lib.tabIs_of_head (t := 147) (e := 5) glob_hex (by kernel_rfl) Tryz.underlying147 Tryz.underlying5 (by kernel_rfl) (by kernel_rfl) h6,
    Lib.tabIs_of_head (t := 158) (e := 123) glob_pow (by kernel_rfl) Tryz.underlying158 Tryz.underlying123 (by kernel_rfl) (by kernel_rfl) h3,
    ⟨_, by simpa using c1, .inr ⟨_, _, rfl⟩⟩, ⟨_, by simpa using c0, .inr ⟨_, _, rfl⟩⟩,
    cell_of_shapedOpen_int (zero := #[.int .i64 0]) (t := 3) hs (of_decide_eq_true (by kernel_rfl)) (by kernel_rfl) rfl (by kernel_rfl) (by kernel_rfl) Tryz.underlying3⟩
/-- The wrap that hands on the reach, what is listed, and the world's shape. -/
theorem handed_all {H : Type} {enc : TypeId × Value → H} {a : Assume} {C : Checked} {os : Os} {f : FuncId} {fn : Func} {s : ChangeSpec} {conds : List PathCond} {apart fresh handsOn again : Bool} {X : World → Array Value → Prop}
 (hX : ∀ (w w' : World) (args : Array Value), w.heap = w'.heap → X w args → X w' args)
 (own : ownKnob C.prog.godebug = none) (started : os.Started) (noInit : C.prog.inits.idxOf? f = none) (hfn : C.prog.funcs[f]? = some fn)
 (witness : ∃ (w : World) (tape : Tape) (i : Input), w.os = os ∧ (w.forCall tape i).Shaped C.prog ∧ i.vars = [] ∧ Input.okWide C.prog (w.forCall tape i) .any w.heap.size f i ∧
  ((s.pre enc C.prog fn conds apart (w.forCall tape i).memory i.args ∧ X (w.forCall tape i).memory i.args) ∧ sizedMet enc C.prog fn (OpenSpec.ofChange s) apart (w.forCall tape i).memory i.args) ∧ a.holds C.prog (lone (Frame.enter C.prog f i.args .normal) [] (w.forCall tape i)))
 (contract : ∀ (W : World) (base : Nat) (args : Array Value) (ds gs : List (DataW H)) (before : List MemPlace),
  (∀ (j : Nat) t v, fn.params[j]? = some t → args[j]? = some v → Value.okWide C.prog W .any base t v) →
  DataW.Whole enc C.prog fn.params.toList s.vars apart W args.toList ds gs before →
  (DataW.weightsEach C.prog (fn.params.toList ++ s.plain.varTypes C.prog) (ds ++ gs)).all (· ≤ reachBytes) = true → X W args → W.ShapedOpen C.prog →
  Calls C.prog f args W fun e W' => ∃ v, e = .returned v ∧ s.post enc C.prog fn apart fresh handsOn again W args v W') :
 ReturnsInHanded a C os f .any (fun w args => (s.pre enc C.prog fn conds apart w args ∧ X w args) ∧ sizedMet enc C.prog fn (OpenSpec.ofChange s) apart w args) (s.post enc C.prog fn apart fresh handsOn again) := by
 refine returnsInHanded_of_calls own started noInit witness (fun w tape i _ hsh _ hok hpre _ => ?_)
 obtain ⟨_, _, _, fn', hfn', _, _, _, _, hval⟩ := hok
 obtain rfl : fn' = fn := Option.some.inj (hfn'.symm.trans hfn)
 obtain ⟨⟨⟨ds, gs, before, hw, _⟩, hx⟩, hz⟩ := hpre
 refine (contract (w.forCall tape i) w.heap.size i.args ds gs before hval (DataW.Whole.of_heap (w' := w.forCall tape i) (by rfl) hw) (hz.weights hw) (hX _ _ _ (by rfl) hx) hsh).mono fun e W' ⟨v, he, hp⟩ => ?_
 subst he
 exact ChangeSpec.post_blind hp
theorem bd_u8 {n : Int} (h : (Lit.int .u8 n).wf = true) : 0 ≤ n ∧ n ≤ 255 := by
  simpa [Lit.wf, IntKind.min, IntKind.max, IntKind.signed, IntKind.bits] using h
instance : Inhabited OpV := ⟨⟨0, [], 0, 0, 0⟩⟩
theorem bd_i64 {n : Int} (h : (Lit.int .i64 n).wf = true) : -9223372036854775808 ≤ n ∧ n ≤ 9223372036854775807 := by
 simpa [Lit.wf, IntKind.min, IntKind.max, IntKind.signed, IntKind.bits] using h
/-- What is known of the sizes of what came in. -/
def Sz {H : Type} (P : Program) (t : TypeId) (d : DataW H) : Prop := ∀ n ∈ d.weights P t, n ≤ reachBytes
theorem wEach_mem {H : Type} {P : Program} {n : Nat} : ∀ (ts : List TypeId) (ds : List (DataW H)) (i : Nat) (t : TypeId) (d : DataW H), ts[i]? = some t → ds[i]? = some d → n ∈ d.weights P t → n ∈ DataW.weightsEach P ts ds
 | [], _, i, t, d, h, _, _ => by simp at h
 | _ :: _, [], i, t, d, _, h, _ => by simp at h
 | u :: us, e :: es, 0, t, d, h, h1, h2 => by
  simp at h h1
  subst h
  subst h1
  unfold DataW.weightsEach
  exact List.mem_append_left _ h2
 | u :: us, e :: es, i + 1, t, d, h, h1, h2 => by
  unfold DataW.weightsEach
  exact List.mem_append_right _ (wEach_mem us es i t d (by simpa using h) (by simpa using h1) h2)
theorem wAll_mem {H : Type} {P : Program} {e : TypeId} {n : Nat} : ∀ (ds : List (DataW H)) (d : DataW H), d ∈ ds → n ∈ d.weights P e → n ∈ DataW.weightsAll P e ds
 | [], d, h, _ => by simp at h
 | x :: ds, d, h, h2 => by
  unfold DataW.weightsAll
  rcases List.mem_cons.1 h with rfl | h
  · exact List.mem_append_left _ h2
  · exact List.mem_append_right _ (wAll_mem ds d h h2)
theorem Sz.part {H : Type} {P : Program} {t : TypeId} {fs : Array Field} {parts : List (DataW H)} (ht : P.underlying t = some (.struct fs)) (h : Sz P t (.agg parts)) {i : Nat} {f : Field} {d : DataW H} (hf : fs[i]? = some f) (hd : parts[i]? = some d) : Sz P f.type d := fun n hn => by
 refine h n ?_
 unfold DataW.weights
 rw [ht]
 exact wEach_mem _ _ i f.type d (by simp [hf]) hd hn
theorem Sz.len {H : Type} {P : Program} {t e : TypeId} {l m : List (DataW H)} (ht : P.underlying t = some (.slice e)) (he : 0 < P.bytesOf e) (h : Sz P t (.slice l m)) : l.length ≤ reachBytes := by
 have h1 := h ((l.length + m.length) * P.bytesOf e) (by
  unfold DataW.weights
  rw [ht]
  exact List.mem_cons_self)
 have h2 : (l.length + m.length) * 1 ≤ (l.length + m.length) * P.bytesOf e := Nat.mul_le_mul_left _ he
 omega
theorem Sz.elem {H : Type} {P : Program} {t e : TypeId} {l m : List (DataW H)} (ht : P.underlying t = some (.slice e)) (h : Sz P t (.slice l m)) {d : DataW H} (hd : d ∈ l) : Sz P e d := fun n hn => by
 refine h n ?_
 unfold DataW.weights
 rw [ht]
 exact List.mem_cons_of_mem _ (List.mem_append_left _ (wAll_mem l d hd hn))
section
variable {H : Type} {enc : TypeId × Value → H} {w : World} {base : Nat} {spare : Nat → Bool} {held : Bool}
theorem rd_slice {α : Type} [Inhabited α] {C : Nat} {R : World → List Value → α → Prop} {P : Program} {t e : TypeId} {fuel : Nat} {cs : List Value} {x : DataW H × List MemPlace} (ht : P.underlying t = some (.slice e)) (hC : P.cellsOf e = C) (h0 : 0 < C)
 (h1 : 0 < P.bytesOf e) (hz : Sz P t x.1)
 (hR : ∀ (n : Nat) (cs : List Value) (x : DataW H × List MemPlace), Sz P e x.1 → DataW.trod enc P w base spare held n e cs = some x → cs.length = C → ∃ v, R w cs v) (h : DataW.trod enc P w base spare held fuel t cs = some x) :
 ∃ v l, cs = [v] ∧ RdS C R w v l := by
 rcases open_slice ht h with ⟨rfl, _⟩ | ⟨a, len, cap, m, n, D, Pl, rfl, _, hl, hm, hmm, rfl, hi⟩
 · exact ⟨_, [], rfl, RdS.nil C R w none 0⟩
 · have hlen := Sz.len ht h1 hz
   rw [List.length_map, List.length_range] at hlen
   have hsz : ∀ i, i < len → Sz P e (D i) := fun i hi => Sz.elem ht hz (List.mem_map.2 ⟨i, List.mem_range.2 hi, rfl⟩)
   have hlm : len ≤ m := by rw [hmm]; split <;> omega
   have key : ∀ i, i < len → ∃ y : α, ∃ cs', cs'.length = C ∧ R w cs' y ∧ ∀ (j : Nat) (c : Value), cs'[j]? = some c → w.cell? ((a.add (i * C)).add j) = some c := by
    intro i him
    obtain ⟨cs', hc, ht'⟩ := hi i (by omega)
    rw [hC] at hc
    obtain ⟨_, hcl, hat⟩ := World.cells?_some hc
    obtain ⟨y, hy⟩ := hR n cs' _ (hsz i him) ht' hcl
    refine ⟨y, cs', hcl, hy, fun j c hj => ?_⟩
    have hjl : j < C := by have := (List.getElem?_eq_some_iff.1 hj).1; omega
    rw [hat j hjl, hj]
   obtain ⟨f, hf⟩ := choose_lt key
   refine ⟨_, (List.range len).map f, rfl, ⟨some a, cap, by simp, ⟨by simpa using hl, by unfold reachBytes at hlen; unfold Rch; simpa using hlen⟩, fun i x hx => ?_⟩⟩
   rw [List.getElem?_map] at hx
   obtain ⟨i', hi', rfl⟩ := Option.map_eq_some_iff.1 hx
   have hil : i < len := by
    have := (List.getElem?_eq_some_iff.1 hi').1
    simpa using this
   rw [List.getElem?_range hil] at hi'
   cases hi'
   obtain ⟨cs', h1, h2, h3⟩ := hf i hil
   obtain ⟨ab, off, sp⟩ := a
   have hc0 := h3 0 (cs'[0]'(by omega)) (List.getElem?_eq_getElem (by omega))
   have hsp : sp = none := by
    obtain ⟨cs0, g1, _, g3⟩ := hf 0 (by omega)
    have h9 := World.cell?_spot (g3 0 (cs0[0]'(by omega)) (List.getElem?_eq_getElem (by omega)))
    simpa [Addr.add] using h9
   subst hsp
   simp only [addr_add] at h3 hc0
   exact ⟨ab, off, cs', rfl, World.block_lt_of_cell? _ _ hc0, h1, h2, h3⟩
theorem rd_int {n : Nat} {c : Value} {y : DataW H × List MemPlace} (h : DataW.trod enc Tryz.prog w base spare held n 3 [c] = some y) : ∃ k, c = (.int .i64 k) ∧ I64 k := by
 obtain ⟨k, e, _, wk⟩ := DataW.trod_int Tryz.underlying3 h
 simp only [List.cons.injEq, and_true] at e
 exact ⟨k, e, bd_i64 wk⟩
theorem rd_str {n : Nat} {c : Value} {y : DataW H × List MemPlace} (hz : Sz Tryz.prog 9 y.1) (h : DataW.trod enc Tryz.prog w base spare held n 9 [c] = some y) : ∃ s : Bytes, c = (.string ⟨s.toArray⟩) ∧ Rch s.length := by
 obtain ⟨k, e, rfl, _⟩ := DataW.trod_string Tryz.underlying9 h
 simp only [List.cons.injEq, and_true] at e
 refine ⟨k.data.toList, by rw [e], hz _ ?_⟩
 show _ ∈ DataW.weights _ _ (.lit (.string k.data.toList))
 unfold DataW.weights
 exact List.mem_singleton.2 rfl
theorem k_int : Tryz.prog.cellsOf 3 = 1 := by kernel_rfl
theorem k_str : Tryz.prog.cellsOf 9 = 1 := by kernel_rfl
theorem k_strs : Tryz.prog.cellsOf 26 = 1 := by kernel_rfl
theorem k_op : Tryz.prog.cellsOf 36 = 5 := by kernel_rfl
theorem rd_rstr {n : Nat} {cs : List Value} {y : DataW H × List MemPlace} (hz : Sz Tryz.prog 9 y.1) (h : DataW.trod enc Tryz.prog w base spare held n 9 cs = some y) (hl : cs.length = 1) : ∃ s, RStr w cs s := by
  match cs, hl with
  | [c], _ =>
    obtain ⟨s, rfl, hr⟩ := rd_str hz h
    exact ⟨s, rfl, hr⟩
theorem rd_strs {n : Nat} {cs : List Value} {y : DataW H × List MemPlace} (hz : Sz Tryz.prog 26 y.1) (h : DataW.trod enc Tryz.prog w base spare held n 26 cs = some y) : ∃ v l, cs = [v] ∧ RdS 1 RStr w v l :=
  rd_slice Tryz.underlying26 k_str (by decide) (of_decide_eq_true (by kernel_rfl)) hz (fun n cs x hz h hl => rd_rstr hz h hl) h
theorem rd_op {n : Nat} {cs : List Value} {y : DataW H × List MemPlace} (hz : Sz Tryz.prog 36 y.1) (h : DataW.trod enc Tryz.prog w base spare held n 36 cs = some y) : ∃ v, ROp w cs v := by
  obtain ⟨ys, n, _, rfl, hlen, hyl, hf⟩ := DataW.trod_struct Tryz.underlying36 h
  rw [k_op] at hlen
  match cs, hlen, ys, hyl, hz with
  | [c0, c1, c2, c3, c4], _, [y0, y1, y2, y3, y4], _, hz =>
    have t0 : DataW.trod enc Tryz.prog w base spare held n 3 [c0] = some y0 := by simpa [k_int] using hf 0 _ rfl
    obtain ⟨v0, rfl, b0⟩ := rd_int t0
    have t1 : DataW.trod enc Tryz.prog w base spare held n 26 [c1] = some y1 := by simpa [k_strs] using hf 1 _ rfl
    obtain ⟨lv, l, e1, hr⟩ := rd_strs (Sz.part Tryz.underlying36 hz (i := 1) rfl rfl) t1
    simp only [List.cons.injEq, and_true] at e1
    subst e1
    have t2 : DataW.trod enc Tryz.prog w base spare held n 3 [c2] = some y2 := by simpa [k_int] using hf 2 _ rfl
    obtain ⟨v2, rfl, b2⟩ := rd_int t2
    have t3 : DataW.trod enc Tryz.prog w base spare held n 3 [c3] = some y3 := by simpa [k_int] using hf 3 _ rfl
    obtain ⟨v3, rfl, b3⟩ := rd_int t3
    have t4 : DataW.trod enc Tryz.prog w base spare held n 3 [c4] = some y4 := by simpa [k_int] using hf 4 _ rfl
    obtain ⟨v4, rfl, b4⟩ := rd_int t4
    exact ⟨⟨v0, l, v2, v3, v4⟩, c1, rfl, hr, b0, b2, b3, b4⟩
theorem rd_ops {n : Nat} {cs : List Value} {y : DataW H × List MemPlace} (hz : Sz Tryz.prog 22 y.1) (h : DataW.trod enc Tryz.prog w base spare held n 22 cs = some y) : ∃ v l, cs = [v] ∧ RdS 5 ROp w v l :=
  rd_slice Tryz.underlying22 k_op (by decide) (of_decide_eq_true (by kernel_rfl)) hz (fun n cs x hz h _ => rd_op hz h) h
/-- The sizes of one argument out of those of all. -/
theorem sz_arg {P : Program} {ts : List TypeId} {ds : List (DataW H)} (h : (DataW.weightsEach P ts ds).all (· ≤ reachBytes) = true) {j : Nat} {t : TypeId} {d : DataW H} (ht : ts[j]? = some t) (hd : ds[j]? = some d) : Sz P t d := fun n hn => of_decide_eq_true (List.all_eq_true.1 h n (wEach_mem _ _ j t d ht hd hn))
theorem open_ops {b0 : Nat} {v : Value} {d : DataW H} {p : List MemPlace} (hv : Value.okWide Tryz.prog w .any b0 22 v) (hz : Sz Tryz.prog 22 d) (h : DataW.Trod enc Tryz.prog w base spare held 22 v d p) : ∃ L, RdS 5 ROp w v L := by
  obtain ⟨ax, lx, cx, rfl⟩ := okWide_slice Tryz.underlying22 hv
  obtain ⟨fuel, hf⟩ := h
  obtain ⟨u, l, he, hr⟩ := rd_ops (y := (d, p)) hz hf
  simp [Value.cells] at he
  subst he
  exact ⟨l, hr⟩
theorem open_texts {b0 : Nat} {v : Value} {d : DataW H} {p : List MemPlace} (hv : Value.okWide Tryz.prog w .any b0 26 v) (hz : Sz Tryz.prog 26 d) (h : DataW.Trod enc Tryz.prog w base spare held 26 v d p) : ∃ L, RdS 1 RStr w v L := by
  obtain ⟨ax, lx, cx, rfl⟩ := okWide_slice Tryz.underlying26 hv
  obtain ⟨fuel, hf⟩ := h
  obtain ⟨u, l, he, hr⟩ := rd_strs (y := (d, p)) hz hf
  simp [Value.cells] at he
  subst he
  exact ⟨l, hr⟩
end
end Go.Proofs.YtpmkgedlnanjiaaGreatDoor
