/-
 LxB, LxC, LxD, LxE, LxF in one text.
-/
import Derived.Test.YtglepipfdmphhaaGreatDoorLxA
import Derived.Test.YtglepipfdmphhaaGreatDoorShelf
import Derived.Deep.MidRow
import Derived.OwnWalk
import Derived.Deep.DeepCutAuto
import Derived.Deep.CutBlock
import Derived.Laws.EntriesVeiled
set_option maxRecDepth 100000
set_option maxHeartbeats 40000000
namespace Go.Proofs.YtglepipfdmphhaaGreatDoor
set_option linter.unusedVariables false
set_option linter.unusedSimpArgs false
open Go Go.RowKit
theorem Blk.range {w:World} {b:Nat} {cs:List Value} {e:TypeId} (h:Blk w b cs e):w.rangeAt b 0 cs:=fun j v hv=>by
 rw[Nat.zero_add]
 exact h.cell hv
theorem Blk.there {w:World} {b:Nat} {cs:List Value} {e:TypeId} (h:Blk w b cs e) {n:Nat} (hn:n=cs.length):w.there b 0 n:=fun j hj=>by
 rw[Nat.zero_add]
 refine ⟨?_,h.free j⟩
 rw[h.cell (i:=j) (v:=cs[j]'(by omega)) (by simp)]
 rfl
theorem setCells_blk (b:Nat) (e:TypeId):∀ (vs:List Value) (o:Nat) (w:World) (cs:List Value),Blk w b cs e→o+vs.length≤cs.length →
 Blk (w.setCells b o vs) b (cs.take o++vs++cs.drop (o+vs.length)) e∧Chg [b] w (w.setCells b o vs)
 | [],o,w,cs,h,_=>by
  refine ⟨?_,Chg.refl _ _⟩
  simpa [World.setCells] using h
 | v :: r,o,w,cs,h,hl=>by
  rw[World.setCells]
  simp only[List.length_cons] at hl
  obtain ⟨h1,h2⟩:=setCells_blk b e r (o+1) _ _ (h.set o v) (by rw[List.length_set];omega)
  refine ⟨?_,((Chg.refl [b] w).setCell ⟨b,o,none⟩ v (.inl (by simp))).trans h2 (by simp)⟩
  have he:(cs.set o v).take (o+1)++r++(cs.set o v).drop (o+1+r.length)=cs.take o++(v :: r)++cs.drop (o+(v :: r).length):=by
   rw[List.drop_set_of_lt (by omega),List.length_cons,show o+1+r.length=o+(r.length+1) by omega]
   congr 1
   rw[List.take_add_one,List.take_set_of_le (by omega),List.getElem?_set_self (by omega)]
   simp
  rw[he] at h1
  exact h1
namespace Lx
def cl0 (k:Nat):Nat:=if cls (UInt8.ofNat k)=2∨cls (UInt8.ofNat k)=5∨cls (UInt8.ofNat k)=8 then 0 else cls (UInt8.ofNat k)
def nt0 (k:Nat):List Nat:=(List.range 256).map fun i=>if i < k then cl0 i else 0
def nt:List Nat:=(List.range 256).map fun i=>cls (UInt8.ofNat i)
def u8v (n:Nat):Value:=.int .u8 (n:Int)
def tab0 (k:Nat):List Value:=(nt0 k).map u8v
def tab:List Value:=nt.map u8v
theorem nt0_len (k:Nat):(nt0 k).length=256:=by unfold nt0;rw[List.length_map,List.length_range]
theorem tab0_len (k:Nat):(tab0 k).length=256:=by unfold tab0;rw[List.length_map,nt0_len]
theorem tab_len:tab.length=256:=by unfold tab nt;rw[List.length_map,List.length_map,List.length_range]
theorem zero_row:∀ n:Nat,((List.range n).map fun i=>if i < 0 then cl0 i else 0).map u8v=List.replicate n (.int .u8 0)
 | 0=>rfl
 | n+1=>by rw[List.range_succ,List.map_append,List.map_append,zero_row n,List.replicate_succ'];rfl
theorem tab0_zero:tab0 0=List.replicate 256 (.int .u8 0):=zero_row 256
theorem nt0_set (k:Nat) (hk:k < 256):(nt0 k).set k (cl0 k)=nt0 (k+1):=by
 apply List.ext_getElem
 · rw[List.length_set,nt0_len,nt0_len]
 intro i h1 h2
 rw[List.getElem_set]
 simp only[nt0,List.getElem_map,List.getElem_range]
 split
 · rename_i h
   subst h
   rw[if_pos (by omega)]
 rename_i h
 by_cases h3:i < k
 · rw[if_pos h3,if_pos (by omega)]
 rw[if_neg h3,if_neg (by omega)]
theorem tab0_set (k:Nat) (hk:k < 256):(tab0 k).set k (.int .u8 (cl0 k:Nat))=tab0 (k+1):=by
 unfold tab0
 rw[← nt0_set k hk,List.map_set]
 rfl
theorem tab0_same (k:Nat) (hk:k < 256) (h0:cl0 k=0):tab0 k=tab0 (k+1):=by
 unfold tab0
 rw[← nt0_set k hk,h0]
 congr 1
 apply List.ext_getElem
 · rw[List.length_set]
 intro i h1 h2
 rw[List.getElem_set]
 split
 · rename_i h
   subst h
   simp only[nt0,List.getElem_map,List.getElem_range]
   rw[if_neg (by omega)]
 rfl
theorem nt_eq:((((nt0 256).set 35 2).set 95 5).set 33 8)=nt:=by decide +kernel
theorem tab_eq:((((tab0 256).set 35 (.int .u8 2)).set 95 (.int .u8 5)).set 33 (.int .u8 8))=tab:=by
 unfold tab0 tab
 rw[← nt_eq,List.map_set,List.map_set,List.map_set]
 rfl
theorem ix_blank:∀ k,k < 256→(0≤Lib.indexByte [32,9,10] k.toUInt8↔k=32∨k=9∨k=10):=by decide +kernel
theorem ix_sym:∀ k,k < 256→(0≤Lib.indexByte [59,44,46,58,40,41,123,125,61,43,45,47] k.toUInt8↔k ∈ [59,44,46,58,40,41,123,125,61,43,45,47]):=by decide +kernel
theorem cl_letter:∀ k,k < 256→(97≤k∧k≤122∨65≤k∧k≤90)→cl0 k=3:=by decide +kernel
theorem cl_digit:∀ k,k < 256→48≤k→k≤57→cl0 k=4:=by decide +kernel
theorem cl_blank:∀ k,k < 256→(k=32∨k=9∨k=10)→cl0 k=1:=by decide +kernel
theorem cl_sym:∀ k,k < 256→k ∈ [59,44,46,58,40,41,123,125,61,43,45,47]→cl0 k=6:=by decide +kernel
theorem cl_pre:∀ k,k < 256→(k=60∨k=62)→cl0 k=7:=by decide +kernel
theorem cl_otherB:∀ k,k < 256→(decide (97≤k∧k≤122) || decide (65≤k∧k≤90) || decide (48≤k∧k≤57) || decide (k=32∨k=9∨k=10) || decide (k ∈ [59,44,46,58,40,41,123,125,61,43,45,47]) || decide (k=60∨k=62) || cl0 k == 0)=true:=by decide +kernel
theorem cl_other (k:Nat) (hk:k < 256) (h1:¬ (97≤k∧k≤122)) (h2:¬ (65≤k∧k≤90)) (h3:¬ (48≤k∧k≤57)) (h4:¬ (k=32∨k=9∨k=10)) (h5:¬ k ∈ [59,44,46,58,40,41,123,125,61,43,45,47]) (h6:¬ (k=60∨k=62)):cl0 k=0:=by
 have h:=cl_otherB k hk
 rw[decide_eq_false h1,decide_eq_false h2,decide_eq_false h3,decide_eq_false h4,decide_eq_false h5,decide_eq_false h6] at h
 simpa using h
end Lx
theorem lx_round {w x:World} {B k:Nat} (hk6:k < 256) (h:Blk x B (Lx.tab0 0) 157∧Blk x (B+1) (Lx.tab0 (k+1)) 157∧Chg [] w x) :
 (∃ k_1:Nat,k_1≤256∧Value.int IntKind.i64 ((k:Int)+1)=Value.int IntKind.i64 (k_1:Int)∧Blk x B (Lx.tab0 0) 157∧Blk x (B+1) (Lx.tab0 k_1) 157∧Chg [] w x) ∧
  256 - (intOf (Value.int IntKind.i64 ((k:Int)+1))).toNat < 256 - (intOf (Value.int IntKind.i64 (k:Int))).toNat:=by
 refine ⟨⟨k+1,by omega,rfl,h⟩,?_⟩
 show 256 - ((k:Int)+1).toNat < 256 - (k:Int).toNat
 omega
end Go.Proofs.YtglepipfdmphhaaGreatDoor
namespace Go.Proofs.YtglepipfdmphhaaGreatDoor
set_option linter.unusedVariables false
set_option linter.unusedSimpArgs false
open Go Go.RowKit
theorem tab_under:Tryz.prog.underlying 157=some (.array 256 5):=by kernel_rfl
theorem tab_size:(Tryz.prog.info? 157).map (·.size)=some 256:=by kernel_rfl
theorem tab_one:Lx.tab.toArray.all (·.oneCell')=true:=all_oneCell_toArray (fun v hv=>by
 obtain ⟨n,_,rfl⟩:=List.mem_map.1 hv
 rfl)
attribute [local irreducible] Lx.tab0 Lx.tab Lx.cl0
theorem ib_x (k:Nat) (w:World) (s:ByteArray) (cs:List UInt8) (x:Int) (hs:s.data.toList=cs) (hx:x=Lib.indexByte cs k.toUInt8) :
 Calls Tryz.prog 92 #[.string s,.int .u8 (k:Int)] w fun e w'=>e = .returned (.int .i64 x)∧w'=w:=by
 have h:=Tryz.strings_IndexByte s (k:Int) w
 rw[hs,Int.toNat_natCast,← hx] at h
 exact h
theorem mLxF1 {G:Prop} (h:G:=by
  go_wp2_with (go_at_call 92;first
   | refine (ib_x k _ _ [32,9,10] x1 rfl X1.out).mono ?_;rintro e w1 ⟨rfl,rfl⟩
   | refine (ib_x k _ _ [59,44,46,58,40,41,123,125,61,43,45,47] x2 rfl X2.out).mono ?_;rintro e w1 ⟨rfl,rfl⟩)
  exact lx_round hk6 HF.out):G:=h
theorem mLxF0 {G:Prop} (h:G:=by
  by_cases hb:k=32∨k=9∨k=10
  · have hI:(0:Int)≤x1:=by rw[X1.out];exact (Lx.ix_blank k hk6).2 hb
    have HF:=Lib.hid (HFIN.out 1 (Lx.cl_blank k hk6 hb))
    clear hb
    exact mLxF1
  have hI:¬ (0:Int)≤x1:=by rw[X1.out];exact fun h=>hb ((Lx.ix_blank k hk6).1 h)
  by_cases hs:k ∈ ([59,44,46,58,40,41,123,125,61,43,45,47]:List Nat)
  · have hJ:(0:Int)≤x2:=by rw[X2.out];exact (Lx.ix_sym k hk6).2 hs
    have HF:=Lib.hid (HFIN.out 6 (Lx.cl_sym k hk6 hs))
    clear hb hs
    exact mLxF1
  have hJ:¬ (0:Int)≤x2:=by rw[X2.out];exact fun h=>hs ((Lx.ix_sym k hk6).1 h)
  by_cases hp:k=60
  · have hP:((k:Int) == (60:Int))=true:=by simp only[beq_iff_eq];omega
    have HF:=Lib.hid (HFIN.out 7 (Lx.cl_pre k hk6 (.inl hp)))
    clear hb hs hp
    exact mLxF1
  have hP:((k:Int) == (60:Int))=false:=by simp only[beq_eq_false_iff_ne];omega
  by_cases hq:k=62
  · have hQ:((k:Int) == (62:Int))=true:=by simp only[beq_iff_eq];omega
    have HF:=Lib.hid (HFIN.out 7 (Lx.cl_pre k hk6 (.inr hq)))
    clear hb hs hp hq
    exact mLxF1
  have hQ:((k:Int) == (62:Int))=false:=by simp only[beq_eq_false_iff_ne];omega
  have hc:=Lx.cl_other k hk6 H123.out.1 H123.out.2.1 H123.out.2.2 hb hs (by omega)
  have HF:=Lib.hid (And.intro HR0.out (And.intro ((Lx.tab0_same k hk6 hc) ▸ HR1.out) HRC.out))
  clear hb hs hp hq hc
  go_wp2_with (go_at_call 92;first
   | refine (ib_x k _ _ [32,9,10] x1 rfl X1.out).mono ?_;rintro e w1 ⟨rfl,rfl⟩
   | refine (ib_x k _ _ [59,44,46,58,40,41,123,125,61,43,45,47] x2 rfl X2.out).mono ?_;rintro e w1 ⟨rfl,rfl⟩)
  exact lx_round hk6 HF.out):G:=h
theorem classes_spec (w:World):Calls Tryz.prog 68 #[] w fun e w'=>e = .returned (.agg Lx.tab.toArray)∧Chg [] w w':=by
 obtain ⟨B,hB⟩:∃ B,B=w.heap.size:=⟨_,rfl⟩
 have HBB:=Lib.hid hB
 go_enter Tryz.func68,Tryz.ntmps68
 go_upto_region 2 with (fail)
 go_cut [4] (fun s4 wx=>s4 = .int .i64 0∧Blk wx w.heap.size (Lx.tab0 0) 157∧Blk wx (w.heap.size+1) (Lx.tab0 0) 157∧Chg [] w wx)
 case first =>
  go_wp2_with fail
  go_meet
  rw[Lx.tab0_zero]
  refine ⟨rfl,(Blk.new w _ _).alloc _,?_,((Chg.refl _ _).alloc _).alloc _⟩
  have h:=Blk.new (w.alloc (.cells (List.replicate 256 (Value.int .u8 0)).toArray 157)) (List.replicate 256 (Value.int .u8 0)) 157
  rw[World.size_alloc] at h
  exact h
 case rest =>
  obtain ⟨rfl,hb0,hb1,hc0⟩:=hcut
  rw[← hB] at hb0 hb1 ⊢
  have HB0:=Lib.hid hb0
  have HB1:=Lib.hid hb1
  have HC0:=Lib.hid hc0
  clear hb0 hb1 hc0 hB
  go_wp2_with fail
  go_loopw [4] (fun i wr=>∃ k:Nat,k≤256∧i = .int .i64 (k:Int)∧Blk wr B (Lx.tab0 0) 157∧Blk wr (B+1) (Lx.tab0 k) 157∧Chg [] w wr) (fun i _=>256 - (intOf i).toNat)
  case atStart=>exact ⟨0,by omega,rfl,HB0.out,HB1.out,HC0.out⟩
  case round =>
   obtain ⟨k,hk,rfl,hb0,hb1,hc⟩:=hrel
   have HR0:=Lib.hid hb0
   have HR1:=Lib.hid hb1
   have HRC:=Lib.hid hc
   clear hb0 hb1 hc HB0 HB1 HC0
   by_cases hk6:k < 256
   · have hk0:(0:Int)≤(k:Int):=by omega
     have hk1:(k:Int) < 256:=by omega
     have hw8:IntKind.u8.wrap (k:Int)=(k:Int):=by
      show (k:Int) % 256=_
      omega
     obtain ⟨old,hold⟩:∃ old,(Lx.tab0 k)[k]? = some old:=⟨(Lx.tab0 k)[k]'(by rw[Lx.tab0_len];exact hk6),by simp⟩
     have cold:=HR1.out.cell hold
     have fold:=HR1.out.free k
     have lB:=HR1.out.lt
     have HFIN:Hid (∀ c:Nat,Lx.cl0 k=c→Blk (wr.setCell ⟨B+1,k,none⟩ (.int .u8 (c:Int))) B (Lx.tab0 0) 157∧Blk (wr.setCell ⟨B+1,k,none⟩ (.int .u8 (c:Int))) (B+1) (Lx.tab0 (k+1)) 157∧Chg [] w (wr.setCell ⟨B+1,k,none⟩ (.int .u8 (c:Int)))):=Lib.hid (fun c hc=>by
      refine ⟨HR0.out.other _ _ (by simp),?_,HRC.out.setCell _ _ (.inr (by rw[← HBB.out];simp))⟩
      rw[← Lx.tab0_set k hk6,hc]
      exact HR1.out.set k _)
     clear hold
     by_cases h1:97≤k∧k≤122
     · have h1a:(97:Int)≤(k:Int):=by omega
       have h1b:(k:Int)≤122:=by omega
       have hc:=Lx.cl_letter k hk6 (.inl h1)
       have HF:=Lib.hid (HFIN.out 3 hc)
       clear h1 hc
       go_wp2_with fail
       exact lx_round hk6 HF.out
     by_cases h2:65≤k∧k≤90
     · have h1a:¬ (97:Int)≤(k:Int):=by omega
       have h2a:(65:Int)≤(k:Int):=by omega
       have h2b:(k:Int)≤90:=by omega
       have hc:=Lx.cl_letter k hk6 (.inr h2)
       have HF:=Lib.hid (HFIN.out 3 hc)
       clear h1 h2 hc
       go_wp2_with fail
       exact lx_round hk6 HF.out
     by_cases h3:48≤k∧k≤57
     · have h1a:¬ (97:Int)≤(k:Int):=by omega
       have h2a:¬ (65:Int)≤(k:Int):=by omega
       have h3a:(48:Int)≤(k:Int):=by omega
       have h3b:(k:Int)≤57:=by omega
       have hc:=Lx.cl_digit k hk6 h3.1 h3.2
       have HF:=Lib.hid (HFIN.out 4 hc)
       clear h1 h2 h3 hc
       go_wp2_with fail
       exact lx_round hk6 HF.out
     have H123:=Lib.hid (And.intro h1 (And.intro h2 h3))
     obtain ⟨x1,hx1⟩:∃ x:Int,x=Lib.indexByte [32,9,10] k.toUInt8:=⟨_,rfl⟩
     obtain ⟨x2,hx2⟩:∃ x:Int,x=Lib.indexByte [59,44,46,58,40,41,123,125,61,43,45,47] k.toUInt8:=⟨_,rfl⟩
     have X1:=Lib.hid hx1
     have X2:=Lib.hid hx2
     clear hx1 hx2
     by_cases g0:k < 48
     · skip
       have q0:¬ (97:Int)≤(k:Int):=by omega
       have q1:¬ (65:Int)≤(k:Int):=by omega
       have q2:¬ (48:Int)≤(k:Int):=by omega
       clear h1 h2 h3 g0
       exact mLxF0
     by_cases g1:k < 65
     · skip
       have q0:¬ (97:Int)≤(k:Int):=by omega
       have q1:¬ (65:Int)≤(k:Int):=by omega
       have q2:(48:Int)≤(k:Int):=by omega
       have q3:¬ (k:Int)≤57:=by omega
       clear h1 h2 h3 g0 g1
       exact mLxF0
     by_cases g2:k < 97
     · skip
       have q0:¬ (97:Int)≤(k:Int):=by omega
       have q1:(65:Int)≤(k:Int):=by omega
       have q2:¬ (k:Int)≤90:=by omega
       have q3:(48:Int)≤(k:Int):=by omega
       have q4:¬ (k:Int)≤57:=by omega
       clear h1 h2 h3 g0 g1 g2
       exact mLxF0
     have q0:(97:Int)≤(k:Int):=by omega
     have q1:¬ (k:Int)≤122:=by omega
     have q2:(65:Int)≤(k:Int):=by omega
     have q3:¬ (k:Int)≤90:=by omega
     have q4:(48:Int)≤(k:Int):=by omega
     have q5:¬ (k:Int)≤57:=by omega
     clear h1 h2 h3 g0 g1 g2
     exact mLxF0
   have hk7:¬ (k:Int) < 256:=by omega
   have hk8:k=256:=by omega
   have HK:=Lib.hid hk8
   have c35:∃ v,(Lx.tab0 k)[35]? = some v:=⟨(Lx.tab0 k)[35]'(by rw[Lx.tab0_len];omega),by simp⟩
   have c95:∃ v,(Lx.tab0 k)[95]? = some v:=⟨(Lx.tab0 k)[95]'(by rw[Lx.tab0_len];omega),by simp⟩
   have c33:∃ v,(Lx.tab0 k)[33]? = some v:=⟨(Lx.tab0 k)[33]'(by rw[Lx.tab0_len];omega),by simp⟩
   obtain ⟨v35,c35⟩:=c35
   obtain ⟨v95,c95⟩:=c95
   obtain ⟨v33,c33⟩:=c33
   have d35:=HR1.out.cell c35
   have d95:=HR1.out.cell c95
   have d33:=HR1.out.cell c33
   have f35:=HR1.out.free 35
   have f95:=HR1.out.free 95
   have f33:=HR1.out.free 33
   clear c35 c95 c33 hk6 hk8 hk
   go_upto_region 20 with (fail)
   obtain ⟨wE,hwE⟩:∃ wE,wE=((wr.setCell ⟨B+1,35,none⟩ (.int .u8 2)).setCell ⟨B+1,95,none⟩ (.int .u8 5)).setCell ⟨B+1,33,none⟩ (.int .u8 8):=⟨_,rfl⟩
   rw[← hwE]
   have E0:Blk wE B (Lx.tab0 0) 157:=by
    rw[hwE]
    exact ((HR0.out.other _ _ (by simp)).other _ _ (by simp)).other _ _ (by simp)
   have E1:Blk wE (B+1) Lx.tab 157:=by
    rw[hwE]
    have h:=((HR1.out.set 35 (.int .u8 2)).set 95 (.int .u8 5)).set 33 (.int .u8 8)
    rw[HK.out,Lx.tab_eq] at h
    exact h
   have EC:Chg [] w wE:=by
    rw[hwE]
    exact ((HRC.out.setCell _ _ (.inr (by rw[← HBB.out];simp))).setCell _ _ (.inr (by rw[← HBB.out];simp))).setCell _ _ (.inr (by rw[← HBB.out];simp))
   clear hwE d35 d95 d33 f35 f95 f33
   have HL:=Lib.hid E1.range
   have HT:Hid (wE.there B 0 Lx.tab.toArray.size):=Lib.hid (E0.there (by rw[Lx.tab0_len,List.size_toArray,Lx.tab_len]))
   obtain ⟨wF,hwF⟩:∃ wF,wF=wE.setCells B 0 Lx.tab.toArray.toList:=⟨_,rfl⟩
   have HWF:=Lib.hid hwF
   have HF:Hid (Blk wF B Lx.tab 157∧Chg [] w wF):=by
    refine Lib.hid ?_
    rw[hwF]
    have h:=setCells_blk B 157 Lx.tab 0 wE (Lx.tab0 0) E0 (by rw[Lx.tab_len,Lx.tab0_len];omega)
    refine ⟨?_,EC.trans h.2 (fun j hj=>.inr (by rw[List.mem_singleton] at hj;rw[hj,HBB.out];omega))⟩
    have h1:=h.1
    rw[List.take_zero,List.nil_append,Lx.tab_len,List.drop_of_length_le (by rw[Lx.tab0_len];omega),List.append_nil] at h1
    exact h1
   have hR:=run_loadVar_mid (P:=Tryz.prog) wF B 0 157 Lx.tab _ HF.out.1.range tab_under rfl (by rw[Lx.tab_len];exact tab_size)
   have HR:=Lib.hid hR
   clear hwF E0 E1 EC hR
   go_wp2_with fail
   refine wp_load_mid 157 _ rfl (B+1) 0 rfl Lx.tab _ HL.out tab_under rfl (by rw[Lx.tab_len];exact tab_size) ?_
   rename_i hK
   refine hK _ _ ?_
   clear hK
   refine wpList_store_mid rfl 157 _ _ rfl B 0 Lx.tab.toArray rfl rfl HT.out (by rw[List.size_toArray,Lx.tab_len];exact tab_size) tab_one ?_
   rw[← HWF.out]
   have hR:=HR.out
   go_wp2_with fail
   refine bodyPost_ret (v:=.agg Lx.tab.toArray) ?_ rfl ⟨rfl,HF.out.2⟩
   simp[results,Tryz.results68,asAddr,Sem.run_bind,Sem.run_pure,Result.andThen_ok,hR]
end Go.Proofs.YtglepipfdmphhaaGreatDoor
namespace Go.Proofs.YtglepipfdmphhaaGreatDoor
set_option linter.unusedVariables false
set_option linter.unusedSimpArgs false
open Go Go.RowKit
namespace Lx
def at' (l:List UInt8) (i:Nat):Nat:=match l[i]? with
 | some b=>cls b
 | none=>0
theorem tab_get (b:UInt8):tab[b.toNat]? = some (.int .u8 (cls b:Nat)):=by
 unfold tab nt
 rw[List.getElem?_map,List.getElem?_map,List.getElem?_range (UInt8.toNat_lt b)]
 simp[u8v]
end Lx
attribute [local irreducible] Lx.tab Lx.cls
theorem at_past (w:World) (s:ByteArray) (i:Nat) (b c:Nat) (hb:w.cell? ⟨b,0,none⟩=some (.string s)) (hi:s.size≤i) :
 Calls Tryz.prog 69 #[.int .i64 (i:Int),.pointer (some ⟨b,0,none⟩),.pointer (some ⟨c,0,none⟩)] w fun e w'=>e = .returned (.int .u8 0)∧w'=w:=by
 have h:(i:Int) ≥ (s.size:Int):=by omega
 have h':(s.size:Int)≤(i:Int):=by omega
 clear hi
 go_enter Tryz.func69,Tryz.ntmps69
 go_wp2_with fail
 exact bodyPost_ret (v:=.int .u8 0) (by simp[results,Tryz.results69,go_sem]) rfl ⟨rfl,rfl⟩
theorem at_in (w:World) (s:ByteArray) (i:Nat) (b c:Nat) (hb:w.cell? ⟨b,0,none⟩=some (.string s)) (hc:Blk w c Lx.tab 157) (hi:i < s.size) :
 Calls Tryz.prog 69 #[.int .i64 (i:Int),.pointer (some ⟨b,0,none⟩),.pointer (some ⟨c,0,none⟩)] w fun e w'=>e = .returned (.int .u8 (Lx.cls s[i]:Nat))∧w'=w:=by
 have h:¬ (s.size:Int)≤(i:Int):=by omega
 have h0:(0:Int)≤(i:Int):=by omega
 have h1:(i:Int) < (s.size:Int):=by omega
 have ht:=hc.cell (Lx.tab_get s[i])
 have HC:=Lib.hid hc
 have hx2:(s[i].toNat:Int) < 256:=by have:=UInt8.toNat_lt s[i];omega
 have hx3:(0:Int)≤(s[i].toNat:Int):=by omega
 clear hc
 go_enter Tryz.func69,Tryz.ntmps69
 go_wp2_with fail
 exact bodyPost_ret (v:=.int .u8 (Lx.cls s[i]:Nat)) (by simp[results,Tryz.results69,go_sem]) rfl ⟨rfl,rfl⟩
end Go.Proofs.YtglepipfdmphhaaGreatDoor
namespace Go.Proofs.YtglepipfdmphhaaGreatDoor
set_option linter.unusedVariables false
set_option linter.unusedSimpArgs false
open Go Go.RowKit
attribute [local irreducible] Lx.tab Lx.tab0 Lx.cls
theorem tab_cells (W:World) (B:Nat) (ht:W.there B 0 256):(storeCells ⟨B,0,none⟩ Lx.tab).run Tryz.prog W = .ok () (W.setCells B 0 Lx.tab):=by
 have h:=run_storeCells_cells (P:=Tryz.prog) B 0 Lx.tab 0 W (fun j hj=>by simpa using (ht j (by rw[Lx.tab_len] at hj;exact hj)).1) (fun j hj=>by simpa using (ht j (by rw[Lx.tab_len] at hj;exact hj)).2)
  (fun v hv=>(Array.all_eq_true_iff_forall_mem.1 tab_one) v (by simpa using hv))
 simp only[Nat.add_zero] at h
 exact h
theorem zero_blk (W:World):Blk (W.alloc (.cells Tryz.zeroCells157 157)) W.heap.size (Lx.tab0 0) 157:=by
 rw[Lx.tab0_zero]
 exact Blk.new W (List.replicate 256 (Value.int .u8 0)) 157
theorem zero_cells (W:World):∃ W2,(storeCells ⟨W.heap.size,0,none⟩ Lx.tab).run Tryz.prog (W.alloc (.cells Tryz.zeroCells157 157)) = .ok () W2∧Blk W2 W.heap.size Lx.tab 157∧Chg [] W W2:=by
 refine ⟨_,tab_cells _ _ ((zero_blk W).there (Lx.tab0_len 0).symm),?_⟩
 have h:=setCells_blk W.heap.size 157 Lx.tab 0 _ (Lx.tab0 0) (zero_blk W) (by rw[Lx.tab_len,Lx.tab0_len];omega)
 have h1:=h.1
 rw[List.take_zero,List.nil_append,Lx.tab_len,List.drop_of_length_le (by rw[Lx.tab0_len];omega),List.append_nil] at h1
 exact ⟨h1,((Chg.refl [] W).alloc _).trans h.2 (fun j hj=>.inr (by rw[List.mem_singleton] at hj;rw[hj];exact Nat.le_refl _))⟩
theorem tokens_spec (w:World) (s:ByteArray) :
 Calls Tryz.prog 44 #[.string s] w fun e w'=>∃ bt bc ba:Nat,e = .returned (.func (.func 70) #[] #[.pointer (some ⟨bt,0,none⟩),.pointer (some ⟨ba,0,none⟩)]) ∧
  w'.cell? ⟨bt,0,none⟩=some (.string s)∧Blk w' bc Lx.tab 157∧w'.cell? ⟨ba,0,none⟩=some (.func (.func 69) #[] #[.pointer (some ⟨bt,0,none⟩),.pointer (some ⟨bc,0,none⟩)]) ∧
  w.heap.size≤bt∧w.heap.size≤bc∧w.heap.size≤ba∧Chg [] w w':=by
 have htl:=Lx.tab_len
 go_enter Tryz.func44,Tryz.ntmps44
 go_wp2_with (go_at_call 68;refine (classes_spec _).mono ?_;rintro e w1 ⟨rfl,hc1⟩;have HC1:=Lib.hid hc1;clear hc1;obtain ⟨w2,hz,hb2,hc2⟩:=zero_cells w1;have HB2:=Lib.hid hb2;have HC2:=Lib.hid hc2;clear hb2 hc2)
 have b0:=Blk.new w [.string s] 9
 have z1:w.heap.size+1≤w1.heap.size:=by have:=HC1.out.size;rwa [World.size_alloc] at this
 have z2:=HC2.out.size
 have b1:=HC2.out.blk (HC1.out.blk b0 (by simp)) (by simp)
 have c1:Chg [] w w1:=((Chg.refl [] w).alloc _).trans HC1.out (by simp)
 refine bodyPost_ret (v:=.func (.func 70) #[] #[.pointer (some ⟨w.heap.size,0,none⟩),.pointer (some ⟨w2.heap.size,0,none⟩)]) (by simp[results,Tryz.results44,go_sem]) rfl
  ⟨w.heap.size,w1.heap.size,w2.heap.size,rfl,(b1.alloc _).cell (i:=0) rfl,HB2.out.alloc _,(Blk.new w2 [_] _).cell (i:=0) rfl,Nat.le_refl _,by omega,by omega,(c1.trans HC2.out (by simp)).alloc _⟩
end Go.Proofs.YtglepipfdmphhaaGreatDoor
namespace Go.Proofs.YtglepipfdmphhaaGreatDoor
set_option linter.unusedVariables false
set_option linter.unusedSimpArgs false
open Go Go.RowKit
namespace Lx
theorem at'_lt {s:Bytes} {i:Nat} (h:i < s.length):at' s i=cls (s[i]):=by unfold at';rw[List.getElem?_eq_getElem h]
theorem at'_past {s:Bytes} {i:Nat} (h:s.length≤i):at' s i=0:=by unfold at';rw[List.getElem?_eq_none h]
theorem cls_le (c:UInt8):cls c≤8:=by unfold cls;repeat (split <;> try decide)
theorem at'_le (s:Bytes) (i:Nat):at' s i≤8:=by
 by_cases h:i < s.length
 · rw[at'_lt h];exact cls_le _
 rw[at'_past (by omega)];decide
theorem wl_drop (p:UInt8→Bool) (s:Bytes) (j:Nat) (h:j < s.length):wl p (s.drop j)=if p s[j] then wl p (s.drop (j+1))+1 else 0:=by
 rw[List.drop_eq_getElem_cons h]
 rfl
theorem wl_end (p:UInt8→Bool) (s:Bytes) (j:Nat) (h:s.length≤j):wl p (s.drop j)=0:=by
 rw[List.drop_eq_nil_of_le h]
 rfl
def from' (s:Bytes) (i:Nat):List (Tk × Nat):=scan s.length i (s.drop i)
theorem from_end (s:Bytes) (i:Nat) (h:s.length≤i):from' s i=[]:=by
 unfold from'
 rw[List.drop_eq_nil_of_le h]
 cases s.length <;> rfl
theorem from_eq (s:Bytes) (i:Nat) (h:i < s.length):from' s i =
 if cls s[i]=1 then from' s (i+1)
 else if cls s[i]=2 then from' s (i+wl line (s.drop i))
 else if (tok (s.drop i)).2.2≠0 then [(mk i (s.drop i),(tok (s.drop i)).2.2)]
 else (mk i (s.drop i),0) :: from' s (i+(tok (s.drop i)).2.1):=by
 have hd:=List.drop_eq_getElem_cons h
 have hf:=scan_fuel s.length (s.length - i - 1+1) i (s.drop i) (by rw[List.length_drop];omega) (by rw[List.length_drop];omega)
 unfold from'
 rw[hf]
 have hl:(s.drop i).length=s.length - i:=List.length_drop
 have hg:∀ k,0 < k→scan (s.length - i - 1) (i+k) ((s.drop i).drop k)=scan s.length (i+k) (s.drop (i+k)):=fun k hk=>by
  rw[List.drop_drop]
  exact scan_fuel _ _ _ _ (by rw[List.length_drop];omega) (by rw[List.length_drop];omega)
 have h1:=hg 1 (by decide)
 have h2:=hg (wl line (s.drop i))
 have h3:=hg (tok (s.drop i)).2.1
 have h4:cls s[i]=2→0 < wl line (s.drop i):=fun e=>by
  rw[hd]
  exact wl_pos (by
   unfold line
   rw[decide_eq_true_iff]
   intro e'
   rw[e'] at e
   revert e
   decide)
 have h5:(tok (s.drop i)).2.2=0→0 < (tok (s.drop i)).2.1:=fun e=>by
  rw[hd] at e ⊢
  exact (tok_pos e).1
 rw[hd] at h1 h2 h3 h4 h5 ⊢
 rw[scan]
 split
 · exact h1
 split
 · rename_i e1 e2
   exact h2 (h4 e2)
 split
 · rfl
 rename_i e1 e2 e3
 rw[h3 (h5 (by simpa using e3))]
theorem tok_at (s:Bytes) (i:Nat) (h:i < s.length):tok (s.drop i) =
 if cls s[i]=3 then (1,wl word (s.drop i),if 24 < wl word (s.drop i) then 3 else 0)
 else if cls s[i]=4 then (2,wl dig (s.drop i),if 10 < wl dig (s.drop i)∨at' s (i+wl dig (s.drop i))=3∨at' s (i+wl dig (s.drop i))=5 then 6 else 0)
 else if cls s[i]=6∨cls s[i]=7∨cls s[i]=8 then
  if cls s[i]≠6∧s[i+1]? = some 61 then (3,2,0) else (3,1,if cls s[i]=8 then 5 else 0)
 else (0,0,5):=by
 have hst:∀ k,(sticks ((s.drop i).drop k)=true)=(at' s (i+k)=3∨at' s (i+k)=5):=fun k=>by
  rw[List.drop_drop]
  by_cases hk:i+k < s.length
  · rw[List.drop_eq_getElem_cons hk,at'_lt hk]
    simp[sticks]
  rw[List.drop_eq_nil_of_le (by omega),at'_past (by omega)]
  simp[sticks]
 have hd:=List.drop_eq_getElem_cons h
 have hh:s[i+1]? = (s.drop (i+1)).head?:=by rw[List.head?_drop]
 have hs:=hst (wl dig (s.drop i))
 rw[hd] at hs ⊢
 rw[tok_cons,hh]
 simp only[hs]
end Lx
theorem dec_num:∀ (l:Bytes) (a:Nat),(∀ c ∈ l,Lx.cls c=4)→Lib.decFrom a l=some (l.foldl (fun a c=>10*a+(c.toNat - 48)) a)
 | [],a,_=>rfl
 | c :: r,a,h=>by
  have hc:=h c (by simp)
  have hd:48≤c.toNat∧c.toNat≤57:=by
   unfold Lx.cls at hc
   by_cases h1:48≤c.toNat∧c.toNat≤57
   · exact h1
   rw[if_neg h1] at hc
   exfalso
   revert hc
   repeat (split <;> try decide)
  have hv:Lib.digitVal c=some (c.toNat - 48):=by unfold Lib.digitVal;rw[if_pos hd]
  rw[Lib.decFrom,hv]
  simp only
  rw[dec_num r _ (fun x hx=>h x (by simp[hx])),List.foldl_cons,Nat.mul_comm]
theorem atoi_num (l:Bytes) (h0:l≠[]) (h:∀ c ∈ l,Lx.cls c=4):Lib.atoi l=some ((Lx.num l:Nat):Int):=by
 cases l with
 | nil=>exact absurd rfl h0
 | cons c r =>
  have hc:=h c (by simp)
  have e1:(c == 45)=false:=by
   rw[beq_eq_false_iff_ne]
   rintro rfl
   revert hc
   decide
  have e2:(c == 43)=false:=by
   rw[beq_eq_false_iff_ne]
   rintro rfl
   revert hc
   decide
  show (if (c == 45)=true then _ else if (c == 43)=true then _ else Option.map (fun (m:Nat)=>(m:Int)) (Lib.decNat (c :: r)))=_
  rw[e1,e2]
  simp only[Bool.false_eq_true,if_false]
  unfold Lib.decNat
  rw[if_neg (by simp),dec_num _ _ h]
  rfl
theorem wl_take {p:UInt8→Bool}:∀ (s:Bytes) (c:UInt8),c ∈ s.take (Lx.wl p s)→p c=true
 | [],c,h=>by simp at h
 | d :: r,c,h=>by
  unfold Lx.wl at h
  split at h
  · rw[List.take_succ_cons] at h
    rcases List.mem_cons.1 h with h|h
    · rw[h];assumption
    exact wl_take r c h
  simp at h
namespace Lx
theorem wl_at (p:UInt8→Bool) (C:Nat→Bool) (hp:∀ c,p c=C (cls c)) (h0:C 0=false) (s:Bytes) (j:Nat) :
 wl p (s.drop j)=(if C (at' s j)=true then wl p (s.drop (j+1))+1 else 0)∧(C (at' s j)=true→j < s.length):=by
 by_cases h:j < s.length
 · rw[wl_drop p s j h,at'_lt h,hp]
   exact ⟨rfl,fun _=>h⟩
 rw[wl_end p s j (by omega),at'_past (by omega),h0]
 exact ⟨rfl,fun e=>by cases e⟩
theorem wl_word (s:Bytes) (j:Nat):wl word (s.drop j)=(if at' s j=3∨at' s j=4∨at' s j=5 then wl word (s.drop (j+1))+1 else 0)∧((at' s j=3∨at' s j=4∨at' s j=5)→j < s.length):=by
 have h:=wl_at word (fun n=>decide (n=3∨n=4∨n=5)) (fun c=>rfl) (by decide) s j
 simpa using h
theorem wl_dig (s:Bytes) (j:Nat):wl dig (s.drop j)=(if at' s j=4 then wl dig (s.drop (j+1))+1 else 0)∧(at' s j=4→j < s.length):=by
 have h:=wl_at dig (fun n=>decide (n=4)) (fun c=>rfl) (by decide) s j
 simpa using h
end Lx
attribute [local irreducible] Lx.tab Lx.tab0 Lx.cls
theorem at_list (w:World) (s:Bytes) (i:Int) (i':Nat) (hi:i=(i':Int)) (b c:Nat) (sb:ByteArray) (hsb:Hid (sb=⟨s.toArray⟩)) (hb:w.cell? ⟨b,0,none⟩=some (.string sb)) (hc:Blk w c Lx.tab 157) :
 Calls Tryz.prog 69 #[.int .i64 i,.pointer (some ⟨b,0,none⟩),.pointer (some ⟨c,0,none⟩)] w fun e w'=>e = .returned (.int .u8 (Lx.at' s i':Nat))∧w'=w:=by
 subst hi
 rw[hsb.out] at hb
 by_cases h:i' < s.length
 · rw[Lx.at'_lt h]
   exact at_in w ⟨s.toArray⟩ i' b c hb hc h
 rw[Lx.at'_past (by omega)]
 exact at_past w ⟨s.toArray⟩ i' b c hb (show s.length≤i' by omega)
theorem sb_cut {s:Bytes} {sb:ByteArray} (hsb:Hid (sb=⟨s.toArray⟩)) (a n:Nat):sb.extract a (a+n)=⟨((s.drop a).take n).toArray⟩:=by
 rw[hsb.out,ByteArray.extract_mk]
 simp
theorem line_yes {s:Bytes} {sb:ByteArray} (hsb:Hid (sb=⟨s.toArray⟩)) {m:Nat} (h:m < sb.size) (h':m < s.length) (hx:((sb[m].toNat:Int) != 10)=true):Lx.wl Lx.line (s.drop m)=Lx.wl Lx.line (s.drop (m+1))+1:=by
 rw[sb_get hsb h h'] at hx
 rw[Lx.wl_drop _ _ _ h',if_pos]
 unfold Lx.line
 rw[decide_eq_true_iff]
 intro e
 rw[e] at hx
 revert hx
 decide
theorem line_no {s:Bytes} {sb:ByteArray} (hsb:Hid (sb=⟨s.toArray⟩)) {m:Nat} (h:m < sb.size) (h':m < s.length) (hx:((sb[m].toNat:Int) != 10)=false):Lx.wl Lx.line (s.drop m)=0:=by
 rw[sb_get hsb h h'] at hx
 rw[Lx.wl_drop _ _ _ h',if_neg]
 unfold Lx.line
 rw[decide_eq_true_iff,Decidable.not_not]
 have h2:(s[m].toNat:Int)=10:=by simpa using hx
 have h3:s[m].toNat=10:=by omega
 exact UInt8.toNat.inj h3
theorem wl_more {p:UInt8→Bool} {s:Bytes} {k j m:Nat} (h:Hid (Lx.wl p (s.drop k)=j+Lx.wl p (s.drop m))) (hm:Hid (m=k+j)) (h1:Lx.wl p (s.drop m)=Lx.wl p (s.drop (m+1))+1):Hid (Lx.wl p (s.drop k)=j+1+Lx.wl p (s.drop (k+(j+1)))):=by
 refine Lib.hid ?_
 rw[h.out,h1,hm.out,show k+j+1=k+(j+1) by omega]
 omega
theorem eq61 {s:Bytes} {sb:ByteArray} (hsb:Hid (sb=⟨s.toArray⟩)) {m:Nat} (h:m < sb.size) (b:Bool) (hx:((sb[m].toNat:Int) == 61)=b):(s[m]? = some 61)↔b=true:=by
 have h':m < s.length:=by have:=hsb.out;subst this;exact h
 rw[sb_get hsb h h'] at hx
 rw[List.getElem?_eq_getElem h',← hx]
 constructor
 · intro e
   rw[Option.some.inj e]
   rfl
 intro e
 have h2:(s[m].toNat:Int)=61:=by simpa using e
 have h3:s[m].toNat=61:=by omega
 exact congrArg some (UInt8.toNat.inj h3)
end Go.Proofs.YtglepipfdmphhaaGreatDoor
