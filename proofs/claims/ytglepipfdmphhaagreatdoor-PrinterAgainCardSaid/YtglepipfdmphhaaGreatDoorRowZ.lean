/-
 Chapter 08: from what the rows list to the tables; halls and rules that come in.
-/
import Derived.Test.YtglepipfdmphhaaGreatDoorRows
import Derived.Test.YtglepipfdmphhaaGreatDoorPrRl
import Derived.Test.YtglepipfdmphhaaGreatDoorPrRow
import Derived.SliceStrings
import Derived.LaidMore
import Derived.Stop.Joined
import Derived.Stop.LaidErr
import Derived.ProofKit
import Derived.OpenShut
import Derived.ShutString
import Derived.Deep.Slices
import Derived.Lib.SmallJoins
import Derived.Shelf.Vars
set_option maxRecDepth 100000
set_option maxHeartbeats 40000000
namespace Go.Proofs.YtglepipfdmphhaaGreatDoor
set_option linter.unusedVariables false
set_option linter.unusedSimpArgs false
open Go Go.RowKit Go.ChangeShapes Go.WideShapes Go.ChangeShapes
def laidL:List (String × DataW Unit):=[("math/bits.deBruijn32tab",Rows.laid_math_bits_deBruijn32tab),("math/bits.deBruijn64tab",Rows.laid_math_bits_deBruijn64tab),("internal/strconv.uint64pow10",Rows.laid_internal_strconv_uint64pow10),("strconv.ErrRange",Rows.laid_strconv_ErrRange),("strconv.ErrSyntax",Rows.laid_strconv_ErrSyntax),("unicode.White_Space",Rows.laid_unicode_White_Space),("strings.asciiSpace",Rows.laid_strings_asciiSpace)]
theorem door_met (os:Os) (args:Array Value):laidMetH Tryz.prog laidL ((World.doorLaid Tryz.prog 400 os).forCall (fun _ _=>0) ⟨#[],args,[]⟩).memory :=
 laidMetH_of_parts3 (fuel:=8) (laidMet_of_run' 8 (by kernel_rfl) (by kernel_rfl)) (by kernel_rfl) (by kernel_rfl)
theorem of_laid {W:World} (h:laidMetH Tryz.prog laidL W) (hs:W.ShapedOpen Tryz.prog):Laid W:=by
 rw[MakeChecks.laidMetH_plain _ _ _ (by kernel_rfl)] at h
 have h3:=h.tail.tail
 have h5:=h3.tail.tail.tail.tail
 exact ⟨Lib.tabIs_of_head (t:=208) (e:=185) (g:=3) (by kernel_rfl) (by kernel_rfl) Tryz.underlying208 Tryz.underlying185 (by kernel_rfl) (by kernel_rfl) h3,
  Lib.tabIs_of_head (t:=157) (e:=5) (g:=0) (by kernel_rfl) (by kernel_rfl) Tryz.underlying157 Tryz.underlying5 (by kernel_rfl) (by kernel_rfl) h5,
  cell_of_shapedOpen_int (zero:=#[.int .i64 0]) (t:=3) hs (of_decide_eq_true (by kernel_rfl)) (by kernel_rfl) rfl (by kernel_rfl) (by kernel_rfl) Tryz.underlying3⟩
theorem handed_all {H:Type} {enc:TypeId × Value→H} {a:Assume} {C:Checked} {os:Os} {f:FuncId} {fn:Func} {s:ChangeSpec} {conds:List PathCond} {apart fresh handsOn again:Bool} {X:World→Array Value→Prop}
 (hX:∀ (w w':World) (args:Array Value),w.heap=w'.heap→X w args→X w' args)
 (own:ownKnob C.prog.godebug=none) (started:os.Started) (noInit:C.prog.inits.idxOf? f=none) (hfn:C.prog.funcs[f]? = some fn)
 (witness:∃ (w:World) (tape:Tape) (i:Input),w.os=os∧(w.forCall tape i).Shaped C.prog∧i.vars=[]∧Input.okWide C.prog (w.forCall tape i) .any w.heap.size f i ∧
  ((s.pre enc C.prog fn conds apart (w.forCall tape i).memory i.args∧X (w.forCall tape i).memory i.args)∧sizedMet enc C.prog fn (OpenSpec.ofChange s) apart (w.forCall tape i).memory i.args)∧a.holds C.prog (lone (Frame.enter C.prog f i.args .normal) [] (w.forCall tape i)))
 (contract:∀ (W:World) (base:Nat) (args:Array Value) (ds gs:List (DataW H)) (before:List MemPlace),
  (∀ (j:Nat) t v,fn.params[j]? = some t→args[j]? = some v→Value.okWide C.prog W .any base t v) →
  DataW.Whole enc C.prog fn.params.toList s.vars apart W args.toList ds gs before →
  (DataW.weightsEach C.prog (fn.params.toList++s.plain.varTypes C.prog) (ds++gs)).all (·≤reachBytes)=true→X W args→W.ShapedOpen C.prog →
  Calls C.prog f args W fun e W'=>∃ v,e = .returned v∧s.post enc C.prog fn apart fresh handsOn again W args v W') :
 ReturnsInHanded a C os f .any (fun w args=>(s.pre enc C.prog fn conds apart w args∧X w args)∧sizedMet enc C.prog fn (OpenSpec.ofChange s) apart w args) (s.post enc C.prog fn apart fresh handsOn again):=by
 refine returnsInHanded_of_calls own started noInit witness (fun w tape i _ hsh _ hok hpre _=>?_)
 obtain ⟨_,_,_,fn',hfn',_,_,_,_,hval⟩:=hok
 obtain rfl:fn'=fn:=Option.some.inj (hfn'.symm.trans hfn)
 obtain ⟨⟨⟨ds,gs,before,hw,_⟩,hx⟩,hz⟩:=hpre
 refine (contract (w.forCall tape i) w.heap.size i.args ds gs before hval (DataW.Whole.of_heap (w':=w.forCall tape i) (by rfl) hw) (hz.weights hw) (hX _ _ _ (by rfl) hx) hsh).mono fun e W' ⟨v,he,hp⟩=>?_
 subst he
 exact ChangeSpec.post_blind hp
section
variable {H:Type} {enc:TypeId × Value→H} {w:World} {base b0:Nat} {spare:Nat→Bool} {held:Bool}
theorem sz_arg {P:Program} {ts:List TypeId} {ds:List (DataW H)} (h:(DataW.weightsEach P ts ds).all (·≤reachBytes)=true) {j:Nat} {t:TypeId} {d:DataW H} (ht:ts[j]? = some t) (hd:ds[j]? = some d):Sz P t d:=fun n hn=>of_decide_eq_true (List.all_eq_true.1 h n (wEach_mem _ _ j t d ht hd hn))
theorem open_hall {v:Value} {d:DataW H} {p:List MemPlace} (hv:Value.okWide Tryz.prog w .any b0 26 v) (hz:Sz Tryz.prog 26 d) (h:DataW.Trod enc Tryz.prog w base spare held 26 v d p) :
 ∃ (h:Pr.Hl) (ao:Option Addr) (cap n:Nat),v = .agg #[.string ⟨h.name.toArray⟩,.int .i64 h.sx,.int .i64 h.sy,.slice ao n cap]∧InH w h ao cap n∧Rch h.name.length:=by
 obtain ⟨cs,rfl,_⟩:=okWide_struct Tryz.underlying26 hv
 obtain ⟨fuel,hf⟩:=h
 obtain ⟨l⟩:=cs
 obtain ⟨x,lv,rfl,i1,i2,hr,hn⟩:=rd_hl (y:=(d,p)) hz hf
 obtain ⟨ao,cap,rfl,_,hrc⟩:=hr.form
 exact ⟨x,ao,cap,_,rfl,⟨rfl,hr,⟨i1,i2⟩,hrc⟩,hn⟩
theorem open_rules {v:Value} {d:DataW H} {p:List MemPlace} (hv:Value.okWide Tryz.prog w .any b0 38 v) (hz:Sz Tryz.prog 38 d) (h:DataW.Trod enc Tryz.prog w base spare held 38 v d p) :
 ∃ (l:List Pr.Itm) (ao:Option Addr) (cap n:Nat),v = .agg #[.slice ao n cap]∧InR w l ao cap n:=by
 obtain ⟨cs,rfl,hc⟩:=okWide_struct Tryz.underlying38 hv
 obtain ⟨fuel,hf⟩:=h
 obtain ⟨l⟩:=cs
 obtain ⟨ys,n,_,hyy,hlen,hyl,hg⟩:=DataW.trod_struct Tryz.underlying38 hf
 rw[show Tryz.prog.cellsOf 38=1 by kernel_rfl] at hc
 match l,hc,ys,hyl with
 | [c0],_,[y0],_ =>
  have t0:DataW.trod enc Tryz.prog w base spare held n 36 [c0]=some y0:=by simpa [k_itms,Value.cells] using hg 0 _ rfl
  injection hyy with hd hp
  have z0:Sz Tryz.prog 36 y0.1:=by
   rw[hd] at hz
   exact Sz.part Tryz.underlying38 hz (i:=0) rfl rfl
  obtain ⟨u,lst,he,hr⟩:=rd_itms z0 t0
  simp only[List.cons.injEq,and_true] at he
  subst he
  obtain ⟨ao,cap,rfl,_,hrc⟩:=hr.form
  exact ⟨lst,ao,cap,_,rfl,⟨rfl,hr,hrc⟩⟩
end
end Go.Proofs.YtglepipfdmphhaaGreatDoor
