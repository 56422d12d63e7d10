/-
 Printer, layer 7: names and numbers, and lines.
-/
import Derived.Test.YtglepipfdmphhaaGreatDoorPrI
set_option maxRecDepth 100000
set_option maxHeartbeats 40000000
namespace Go.Proofs.YtglepipfdmphhaaGreatDoor
set_option linter.unusedVariables false
set_option linter.unusedSimpArgs false
open Go Go.RowKit Go.Shelf
theorem all_u8 (P:UInt8→Bool) (h:(List.range 256).all (fun n=>P (UInt8.ofNat n))=true) (c:UInt8):P c=true:=by
 have:=List.all_eq_true.1 h c.toNat (List.mem_range.2 (UInt8.toNat_lt c))
 simpa using this
namespace Lx
theorem let_num (c:UInt8):decide (cls c=3)=(decide (97≤c.toNat∧c.toNat≤122) || decide (65≤c.toNat∧c.toNat≤90)) :=
 eq_of_beq (all_u8 (fun c=>decide (cls c=3) == (decide (97≤c.toNat∧c.toNat≤122) || decide (65≤c.toNat∧c.toNat≤90))) (by decide +kernel) c)
theorem word_num (c:UInt8):word c=(decide (cls c=3) || (decide (48≤c.toNat∧c.toNat≤57) || decide (c.toNat=95))) :=
 eq_of_beq (all_u8 (fun c=>word c == (decide (cls c=3) || (decide (48≤c.toNat∧c.toNat≤57) || decide (c.toNat=95)))) (by decide +kernel) c)
end Lx
attribute [local irreducible] Lx.cls Lx.word Go.wpStill
def intN:Value→Nat
 | .int _ n=>n.toNat
 | _=>0
theorem letter_w (w:World) (c:UInt8):Calls Tryz.prog 36 #[.int .u8 (c.toNat:Int)] w fun e w'=>e = .returned (.bool (decide (Lx.cls c=3)))∧w'=w:=by
 rw[Lx.let_num]
 obtain ⟨n,hn⟩:∃ n,n=c.toNat:=⟨_,rfl⟩
 rw[← hn]
 clear hn
 go_enter Tryz.func36,Tryz.ntmps36
 by_cases a1:97≤n
 · have b1:(97:Int)≤(n:Int):=by omega
   by_cases a2:n≤122
   · have b2:(n:Int)≤122:=by omega
     go_wp2_with fail
     go_ret
     exact ⟨by simp[a1,a2],rfl⟩
   have b2:¬ (n:Int)≤122:=by omega
   have b3:(65:Int)≤(n:Int):=by omega
   have b4:¬ (n:Int)≤90:=by omega
   go_wp2_with fail
   go_ret
   exact ⟨by simp[a1,a2];omega,rfl⟩
 have b1:¬ (97:Int)≤(n:Int):=by omega
 by_cases a3:65≤n
 · have b3:(65:Int)≤(n:Int):=by omega
   by_cases a4:n≤90
   · have b4:(n:Int)≤90:=by omega
     go_wp2_with fail
     go_ret
     exact ⟨by simp[a1,a3,a4],rfl⟩
   have b4:¬ (n:Int)≤90:=by omega
   go_wp2_with fail
   go_ret
   exact ⟨by simp[a1,a3,a4],rfl⟩
 have b3:¬ (65:Int)≤(n:Int):=by omega
 go_wp2_with fail
 go_ret
 exact ⟨by simp[a1,a3],rfl⟩
namespace Pr
def NmAt (s:Bytes) (j:Nat) (r:Bool):Prop:=(r=true∧0 < s.length∧s.length≤24∧(s.head?.any (fun c=>decide (Lx.cls c=3)))=true∧(s.take j).all Lx.word=true)∨(r=false∧nameOk s=false)
theorem NmAt.end {s:Bytes} {r:Bool} (h:NmAt s s.length r):nameOk s=r:=by
 rcases h with ⟨rfl,h1,h2,h3,h4⟩|⟨rfl,h⟩
 · rw[List.take_length] at h4
   simp[nameOk,h1,h2,h3,h4]
 exact h
theorem NmAt.step {s:Bytes} {j:Nat} (h:NmAt s j true) (hj:j < s.length):NmAt s (j+1) (Lx.word s[j]):=by
 rcases h with ⟨_,h1,h2,h3,h4⟩|⟨h,_⟩
 · by_cases hw:Lx.word s[j]=true
   · refine .inl ⟨hw,h1,h2,h3,?_⟩
     rw[List.take_succ_eq_append_getElem hj,List.all_append,h4]
     simp[hw]
   refine .inr ⟨by simpa using hw,?_⟩
   have:s.all Lx.word=false:=by
    rw[List.all_eq_false]
    exact ⟨s[j],List.getElem_mem _,by simpa using hw⟩
   simp[nameOk,this]
 cases h
end Pr
theorem mPrH0 {G:Prop} (h:G:=by
  have c3:=HB.out.cell (i:=3) rfl
  have f3:=HB.out.free 3
  cases bad <;> (go_wp2_with fail;go_ret;exact ⟨by rw[HSB.out];rfl,by (try rw[HE.out]);exact HW.out.rest ((Chg.refl _ _).setCell _ _ (.inl (by simp))) HP.out (HB.out.set 3 _),(Chg.refl _ _).setCell _ _ (.inl (by simp))⟩)):G:=h
theorem name_w {T:TypeId} (b:Nat) (w:World) (o:Bytes) (d:Value) (bad:Bool) (v:Value) (s:Bytes) (HW:Hid (BW T b o [d,.bool bad] v w)) :
 Calls Tryz.prog 14 #[.pointer (some ⟨b,0,none⟩),.string ⟨s.toArray⟩] w fun e w'=>e = .returned (.string ⟨s.toArray⟩)∧BW T b o [d,.bool (bad || !Pr.nameOk s)] v w'∧Chg [b] w w':=by
 obtain ⟨p,hp,hb⟩:=HW.out.blk
 have HB:=hd hb
 have HP:=hd hp
 obtain ⟨sb,hsb⟩:∃ sb:ByteArray,sb=⟨s.toArray⟩:=⟨_,rfl⟩
 have HSB:=hd hsb
 have HSZ:Hid (sb.size=s.length):=hd (by rw[hsb];show s.toArray.size=_;simp)
 rw[← hsb]
 clear hsb hb hp
 go_enter Tryz.func14,Tryz.ntmps14
 go_upto_region 2 with (fail)
 go_cut [6] (fun r wr=>wr=w∧∃ r0:Bool,r = .bool r0∧Hid (Pr.NmAt s 0 r0))
 case first =>
  by_cases h0:0 < s.length
  · have k0:(0:Int) < (sb.size:Int):=by rw[HSZ.out];omega
    by_cases h24:s.length≤24
    · have k1:(sb.size:Int)≤24:=by rw[HSZ.out];omega
      have kk:0 < sb.size:=by rw[HSZ.out];exact h0
      have HG:=hd (sb_get HSB kk h0)
      go_wp2_with fail
      refine (letter_w _ sb[0]).mono ?_
      rintro e w1 ⟨rfl,rfl⟩
      rw[HG.out]
      have hhd:s.head?.any (fun c=>decide (Lx.cls c=3))=decide (Lx.cls s[0]=3):=by
       cases s with
       | nil=>simp at h0
       | cons c s=>rfl
      have HR:Hid (Pr.NmAt s 0 (decide (Lx.cls s[0]=3))):=hd (by
       by_cases h3:Lx.cls s[0]=3
       · exact .inl ⟨decide_eq_true h3,h0,h24,hhd.trans (decide_eq_true h3),by simp⟩
       refine .inr ⟨decide_eq_false h3,?_⟩
       unfold Pr.nameOk
       rw[hhd,decide_eq_false h3]
       simp)
      obtain ⟨q,hq⟩:∃ q,q=decide (Lx.cls s[0]=3):=⟨_,rfl⟩
      rw[← hq] at HR ⊢
      clear hq hhd
      cases q <;> (go_wp2_with fail;go_meet;exact ⟨rfl,_,rfl,HR⟩)
    have k1:¬ (sb.size:Int)≤24:=by rw[HSZ.out];omega
    have HR:Hid (Pr.nameOk s=false):=hd (by simp[Pr.nameOk,h24])
    go_wp2_with fail
    go_meet
    exact ⟨rfl,_,rfl,hd (.inr ⟨rfl,HR.out⟩)⟩
  have k0:¬ (0:Int) < (sb.size:Int):=by rw[HSZ.out];omega
  have HR:Hid (Pr.nameOk s=false):=hd (by simp[Pr.nameOk,h0])
  go_wp2_with fail
  go_meet
  exact ⟨rfl,_,rfl,hd (.inr ⟨rfl,HR.out⟩)⟩
 case rest =>
  obtain ⟨hwe,r0,rfl,HN0⟩:=hcut
  have hwe:=hwe.symm
  subst hwe
  go_wp2_with fail
  go_loop [6,7] (fun r i=>∃ (j:Nat) (r0:Bool),i = .int .i64 (j:Int)∧r = .bool r0∧j≤s.length∧Hid (Pr.NmAt s j r0)) (fun _ i=>s.length - intN i)
  case atStart=>exact ⟨0,r0,rfl,rfl,Nat.zero_le _,HN0⟩
  case round =>
   obtain ⟨j,r1,rfl,rfl,hj,HNJ⟩:=hrel
   clear HN0
   have fin:∀ (r2:Bool),r2=Pr.nameOk s→True:=fun _ _=>trivial
   cases r1 with
   | false =>
    have HE:Hid (Pr.nameOk s=false):=hd (by
     rcases HNJ.out with ⟨h,_⟩|⟨_,h⟩
     · cases h
     exact h)
    exact mPrH0
   | true =>
    by_cases hlt:j < s.length
    · have q1:(j:Int) < (sb.size:Int):=by rw[HSZ.out];omega
      have q0:(0:Int)≤(j:Int):=by omega
      have hkk:j < sb.size:=by rw[HSZ.out];exact hlt
      have HG:=hd (sb_get HSB hkk hlt)
      have HST:=hd (HNJ.out.step hlt)
      have h24:s.length≤24:=by
       rcases HNJ.out with ⟨_,_,h,_⟩|⟨h,_⟩
       · exact h
       cases h
      have hw:=Lx.word_num s[j]
      go_wp2_with fail
      refine (letter_w _ sb[j]).mono ?_
      rintro e w1 ⟨rfl,rfl⟩
      rw[HG.out]
      by_cases h3:Lx.cls s[j]=3
      · rw[decide_eq_true h3] at hw ⊢
        rw[hw] at HST
        clear h3 hw
        go_wp2_with fail
        go_round
        case rel=>exact ⟨j+1,true,vint (by omega),rfl,by omega,HST⟩
        case measure=>simp[intN];omega
      rw[decide_eq_false h3] at hw ⊢
      clear h3
      by_cases n48:48≤s[j].toNat
      · have m48:(48:Int)≤(sb[j].toNat:Int):=by rw[HG.out];omega
        by_cases n57:s[j].toNat≤57
        · have m57:(sb[j].toNat:Int)≤57:=by rw[HG.out];omega
          rw[hw] at HST
          have HST2:Hid (Pr.NmAt s (j+1) true):=hd (by have:=HST.out;simpa [n48,n57] using this)
          clear hw HST n48 n57
          go_wp2_with fail
          go_round
          case rel=>exact ⟨j+1,true,vint (by omega),rfl,by omega,HST2⟩
          case measure=>simp[intN];omega
        have m57:¬ (sb[j].toNat:Int)≤57:=by rw[HG.out];omega
        rw[hw] at HST
        by_cases n95:s[j].toNat=95
        · have m95:((sb[j].toNat:Int) == 95)=true:=by rw[HG.out,beq_iff_eq];omega
          have HST2:Hid (Pr.NmAt s (j+1) true):=hd (by have:=HST.out;simpa [n48,n57,n95] using this)
          clear hw HST n48 n57 n95
          go_wp2_with fail
          go_round
          case rel=>exact ⟨j+1,true,vint (by omega),rfl,by omega,HST2⟩
          case measure=>simp[intN];omega
        have m95:((sb[j].toNat:Int) == 95)=false:=by rw[HG.out,beq_eq_false_iff_ne];omega
        have HST2:Hid (Pr.NmAt s (j+1) false):=hd (by have:=HST.out;simpa [n48,n57,n95] using this)
        clear hw HST n48 n57 n95
        go_wp2_with fail
        go_round
        case rel=>exact ⟨j+1,false,vint (by omega),by first|rfl|exact congrArg Value.bool (decide_eq_false (by omega)),by omega,HST2⟩
        case measure=>simp[intN];omega
      have m48:¬ (48:Int)≤(sb[j].toNat:Int):=by rw[HG.out];omega
      have m95:((sb[j].toNat:Int) == 95)=false:=by rw[HG.out,beq_eq_false_iff_ne];omega
      rw[hw] at HST
      have n95:¬ s[j].toNat=95:=by omega
      have HST2:Hid (Pr.NmAt s (j+1) false):=hd (by have:=HST.out;simpa [n48,n95] using this)
      clear hw HST n48 n95
      go_wp2_with fail
      go_round
      case rel=>exact ⟨j+1,false,vint (by omega),rfl,by omega,HST2⟩
      case measure=>simp[intN];omega
    have q1:¬ (j:Int) < (sb.size:Int):=by rw[HSZ.out];omega
    have HE:Hid (Pr.nameOk s=true):=hd (by
     have h1:j=s.length:=by omega
     have h2:=HNJ.out
     rw[h1] at h2
     exact h2.end)
    exact mPrH0
structure Laid (w:World):Prop where
 pow:Lib.TabIs Tryz.prog w "internal/strconv.uint64pow10" .u64 Lib.pow10Tab
 sp:Lib.TabIs Tryz.prog w "strings.asciiSpace" .u8 Lib.asciiSpaceTab
 cut:∃ m,w.cell? ⟨2,0,none⟩=some (.int .i64 m)
theorem tab_kept {w w':World} {name:String} {k:IntKind} {zs:List Int} {g:Nat} (hg:Tryz.prog.globalNamed name=some g) (h:Lib.TabIs Tryz.prog w name k zs) (hc:Chg [] w w'):Lib.TabIs Tryz.prog w' name k zs:=by
 unfold Lib.TabIs World.var? at h ⊢
 rw[hg] at h ⊢
 simp only[Option.bind_some] at h ⊢
 have hl:g < w.heap.size:=by
  rcases Nat.lt_or_ge g w.heap.size with h'|h'
  · exact h'
  rw[Array.getElem?_eq_none h'] at h;simp at h
 rw[hc.block g hl (by simp)]
 exact h
theorem glob_pow:∃ g,Tryz.prog.globalNamed "internal/strconv.uint64pow10" = some g:=Option.isSome_iff_exists.1 (by kernel_rfl)
theorem glob_sp:∃ g,Tryz.prog.globalNamed "strings.asciiSpace" = some g:=Option.isSome_iff_exists.1 (by kernel_rfl)
theorem Laid.quiet {w w':World} (h:Laid w) (hc:Chg [] w w'):Laid w':=⟨tab_kept glob_pow.choose_spec h.pow hc,tab_kept glob_sp.choose_spec h.sp hc,by obtain ⟨m,hm⟩:=h.cut;exact ⟨m,(World.cell?_of_block (hc.block _ (World.block_lt_of_cell? _ _ hm) (by simp))).trans hm⟩⟩
theorem Below.chg {w0 w w':World} (h:Chg [] w0 w) (hb:Below w0.heap.size w w'):Chg [] w0 w' :=
 ⟨hb.os.trans h.os,hb.tape.trans h.tape,hb.output.trans h.output,Nat.le_trans h.size hb.size,fun k hk hn=>(hb.block k hk).trans (h.block k hk hn)⟩
theorem Chg.since {b:Nat} {w0 w w':World} (h:Chg [] w0 w) (hc:Chg [b] w w') (hb:w0.heap.size≤b):Chg [] w0 w':=h.trans hc (fun k hk=>.inr (by rw[List.mem_singleton] at hk;omega))
namespace Pr
theorem nums_take {l:List Int} {j:Nat} {x:Int} (h:l[j]? = some x):nums (l.take (j+1))=nums (l.take j)++(32 :: Lib.itoa x):=by
 obtain ⟨hj,rfl⟩:=List.getElem?_eq_some_iff.1 h
 rw[List.take_succ_eq_append_getElem hj,nums_append]
 simp[nums]
theorem numsOk_take {l:List Int} {j:Nat} {x:Int} (h:l[j]? = some x):numsOk (l.take (j+1))=(numsOk (l.take j) && numOk x):=by
 obtain ⟨hj,rfl⟩:=List.getElem?_eq_some_iff.1 h
 rw[List.take_succ_eq_append_getElem hj,numsOk_append]
 simp[numsOk]
end Pr
theorem numbers_w {T:TypeId} (w0:World) (HL:Hid (Laid w0)) (b:Nat) (HB0:Hid (w0.heap.size≤b)) (w:World) (HQ:Hid (Chg [] w0 w)) (o:Bytes) (d:Value) (bad:Bool) (v:Value) (HW:Hid (BW T b o [d,.bool bad] v w))
 (X:Nat) (l:List Int) (n:Nat) (HN:Hid (l.length=n)) (hn:n≤4) (HI:Hid (∀ k ∈ l,Pr.I64 k)) (HX:Hid (Blk w X (l.map Pr.iv) 3)) (HXB:Hid (X≠b)) :
 Calls Tryz.prog 15 #[.pointer (some ⟨b,0,none⟩),.slice (some ⟨X,0,none⟩) n n] w fun e w'=>e = .returned (.string ⟨(Pr.nums l).toArray⟩)∧BW T b o [d,.bool (bad || !Pr.numsOk l)] v w'∧Chg [b] w w':=by
 obtain ⟨p,hp,hb⟩:=HW.out.blk
 have HB:=hd hb
 have HP:=hd hp
 clear hb hp
 go_enter Tryz.func15,Tryz.ntmps15
 go_wp2_with fail
 obtain ⟨W1,hW⟩:∃ W,W=w.alloc (.cells #[.pointer none,.slice none 0 0] 73):=⟨_,rfl⟩
 rw[← hW]
 obtain ⟨S,hS⟩:∃ S,S=w.heap.size:=⟨_,rfl⟩
 rw[← hS]
 have HS0:Hid (BW 73 S [] [] (.slice none 0 0) W1):=hd (by rw[hW,hS];exact BW.new w _ [])
 have HSG:Hid (S=w.heap.size):=hd hS
 have HSB:Hid (b < S):=hd (by rw[hS];exact HB.out.lt)
 have HSX:Hid (X < S):=hd (by rw[hS];exact HX.out.lt)
 have HC1:Hid (Chg [b] w W1):=hd (by rw[hW];exact (Chg.refl _ _).alloc _)
 have HB1:Hid (Blk W1 b [p,v,d,.bool bad] T):=hd (by rw[hW];exact HB.out.alloc _)
 clear hW hS
 go_loopw [10] (fun i wr=>∃ (j:Nat) (vs:Value),i = .int .i64 (j:Int)∧j≤n∧Hid (BW 73 S (Pr.nums (l.take j)) [] vs wr)∧Hid (Blk wr b [p,v,d,.bool (bad || !Pr.numsOk (l.take j))] T)∧Hid (Chg [b] w wr)) (fun i _=>n - intN i)
 case atStart=>exact ⟨0,_,rfl,Nat.zero_le _,HS0,hd (by simpa [Pr.numsOk] using HB1.out),HC1⟩
 case round =>
  obtain ⟨j,vs,rfl,hj,HS,HBJ,HC⟩:=hrel
  by_cases hlt:j < n
  · obtain ⟨x,hx⟩:∃ x,l[j]? = some x:=⟨l[j]'(by rw[HN.out];exact hlt),by simp⟩
    have c0:wr.cell? ⟨X,j,none⟩=some (.int .i64 x):=(HC.out.blk HX.out (by simp[HXB.out])).cell (i:=j) (by rw[List.getElem?_map,hx];rfl)
    have hI:Pr.I64 x:=HI.out x (List.mem_of_getElem? hx)
    have HIX:=hd hI
    have HT1:=hd (Pr.nums_take hx)
    have HT2:=hd (Pr.numsOk_take hx)
    obtain ⟨q,hq⟩:∃ q,q=(bad || !Pr.numsOk (l.take j)):=⟨_,rfl⟩
    rw[← hq] at HBJ
    have HQJ:=hd hq
    have c3:=HBJ.out.cell (i:=3) rfl
    have f3:=HBJ.out.free 3
    have q1:(j:Int) < (n:Int):=by omega
    have q0:(0:Int)≤(j:Int):=by omega
    clear hx hI hq HS0 HC1 HB1
    go_upto_region 5 with (fail)
    clear c0
    go_cut [] (fun wx=>wx=wr.setCell ⟨b,3,none⟩ (.bool (q || !Pr.numOk x)))
    case first =>
     by_cases n0:x < 0
     · have HNO:Hid (Pr.numOk x=false):=hd (by unfold Pr.numOk;rw[decide_eq_false (by omega)];rfl)
       cases q <;> (go_wp2_with fail;go_meet;simp[HNO.out])
     by_cases n9:9999999999 < x
     · have HNO:Hid (Pr.numOk x=false):=hd (by unfold Pr.numOk;rw[decide_eq_false (p:=x≤9999999999) (by omega)];simp)
       cases q <;> (go_wp2_with fail;go_meet;simp[HNO.out])
     have HNO:Hid (Pr.numOk x=true):=hd (by unfold Pr.numOk;rw[decide_eq_true (by omega),decide_eq_true (by omega)];rfl)
     cases q <;> (go_wp2_with fail;go_meet;simp[HNO.out])
    case rest =>
     obtain ⟨W2,hW2⟩:∃ W2,W2=wr.setCell ⟨b,3,none⟩ (.bool (q || !Pr.numOk x)):=⟨_,rfl⟩
     have HB2:Hid (Blk W2 b [p,v,d,.bool (q || !Pr.numOk x)] T):=hd (by rw[hW2];exact HBJ.out.set 3 _)
     have HCC:Hid (Chg [b] wr W2):=hd (by rw[hW2];exact (Chg.refl _ _).setCell _ _ (.inl (by simp)))
     have HC2:Hid (Chg [b] w W2):=hd (HC.out.trans HCC.out (fun k hk=>.inl hk))
     have HS2:Hid (BW 73 S (Pr.nums (l.take j)) [] vs W2):=hd (HS.out.keep HCC.out (by have:=HSB.out;simp;omega) (fun k hk=>by have:=HS.out.ge k hk;have:=HSB.out;simp;omega))
     rw[← hW2] at hcut
     clear hW2 c3 f3
     subst hcut
     go_wp2_with fail
     refine (Tryz.strconv_Itoa x (HIX.out.1) (HIX.out.2) _ (HL.out.quiet (HQ.out.since HC2.out HB0.out)).pow).mono ?_
     rintro e w2 ⟨rfl,dd,os,rfl⟩
     obtain ⟨it,hit⟩:∃ it,it=Lib.itoa x:=⟨_,rfl⟩
     have hil:it.length≤21:=by rw[hit];exact Pr.itoa_len x HIX.out
     rw[← hit] at HT1 ⊢
     have HIL:=hd hil
     have hb2:Chg [] wc (Go.Sort.grow (wc.drewN dd) os):=Below.chg (Chg.refl _ _) (Lib.below_grow _ _ (Nat.le_refl _) _ _)
     generalize Go.Sort.grow (wc.drewN dd) os=w2 at *
     have HC3:Hid (Chg [b] w w2):=hd (HC2.out.trans hb2 (by simp))
     have HB3:Hid (Blk w2 b [p,v,d,.bool (q || !Pr.numOk x)] T):=hd (hb2.blk HB2.out (by simp))
     have HS3:Hid (BW 73 S (Pr.nums (l.take j)) [] vs w2):=hd (HS2.out.quiet hb2)
     have hs1:¬ 9223372036854775807 < 1+it.length:=by omega
     clear hb2 HC2 HB2 HS2 HCC hit hil
     go_wp2_with fail
     have hln:(Pr.nums (l.take j)).length≤22*4:=by
      have h1:=Pr.nums_len (l.take j) (fun k hk=>HI.out k (List.mem_of_mem_take hk))
      have h2:(l.take j).length≤4:=by rw[List.length_take,HN.out];omega
      omega
     have hja:(⟨#[32]⟩:ByteArray)++⟨it.toArray⟩=⟨(32 :: it).toArray⟩:=ByteArray.ext (by simp)
     rw[hja]
     have HLN:=hd hln
     clear hln hja
     refine (writeString_w (T:=73) (n:=0) (.inl ⟨rfl,rfl⟩) S w2 _ [] rfl vs ⟨(32 :: it).toArray⟩ (by simp) HS3 (by
      have h1:=HLN.out
      have h2:=HIL.out
      have h3:(⟨(32 :: it).toArray⟩:ByteArray).size=it.length+1:=by show (32 :: it).toArray.size=_;simp
      omega)).mono ?_
     rintro e w3 ⟨v3,rfl,h4,h5⟩
     have hne:∀ k,vs.ownBlock=some k→S+1≤k:=fun k hk=>(HS3.out.ge k hk).1
     have HC4:Hid (Chg [b] w w3):=hd (HC3.out.trans h5.chg (fun k hk=>.inr (by
      have h1:=HSG.out
      rcases List.mem_cons.1 hk with rfl|hk
      · omega
      rw[Option.mem_toList] at hk
      have:=hne k hk
      omega)))
     have HB4:Hid (Blk w3 b [p,v,d,.bool (q || !Pr.numOk x)] T):=hd (h5.chg.blk HB3.out (by
      have h1:=HSB.out
      simp only[List.mem_cons,Option.mem_toList,not_or]
      refine ⟨by omega,fun h=>?_⟩
      have:=hne b h
      omega))
     have HS4:Hid (BW 73 S (Pr.nums (l.take j)++(32 :: it)) [] v3 w3):=hd (by simpa using h4)
     rw[← HT1.out] at HS4
     have HQ4:Hid (Blk w3 b [p,v,d,.bool (bad || !Pr.numsOk (l.take (j+1)))] T):=hd (by
      have h1:=HB4.out
      rw[HQJ.out,Bool.or_assoc] at h1
      rw[HT2.out,Bool.not_and]
      exact h1)
     clear h4 h5 hne HC3 HB3 HS3 HB4
     go_wp2_with fail
     go_roundw
     case rel=>exact ⟨j+1,v3,vint (by omega),by omega,HS4,HQ4,HC4⟩
     case measure=>simp[intN];omega
  have hjn:l.take j=l:=List.take_of_length_le (by rw[HN.out];omega)
  rw[hjn] at HS HBJ
  have q1:¬ (j:Int) < (n:Int):=by omega
  clear hjn
  go_wp2_with fail
  refine (string_w S wr _ [] vs HS).mono ?_
  rintro e w3 ⟨rfl,h4⟩
  have hne:∀ k,vs.ownBlock=some k→S+1≤k:=fun k hk=>(HS.out.ge k hk).1
  have HC4:Hid (Chg [b] w w3):=hd (HC.out.trans h4 (fun k hk=>.inr (by
   have h1:=HSG.out
   rw[Option.mem_toList] at hk
   have:=hne k hk
   omega)))
  have HB4:Hid (Blk w3 b [p,v,d,.bool (bad || !Pr.numsOk l)] T):=hd (h4.blk HBJ.out (by
   have h1:=HSB.out
   rw[Option.mem_toList]
   intro h
   have:=hne b h
   omega))
  clear h4 hne
  go_wp2_with fail
  go_ret
  exact ⟨rfl,HW.out.rest HC4.out HP.out HB4.out,HC4.out⟩
end Go.Proofs.YtglepipfdmphhaaGreatDoor
