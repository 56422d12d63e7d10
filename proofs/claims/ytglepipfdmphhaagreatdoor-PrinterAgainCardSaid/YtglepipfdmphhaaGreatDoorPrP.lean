/-
 Printer, layer 10: the number of tokens, and the end of a text.
-/
import Derived.Test.YtglepipfdmphhaaGreatDoorPrN
set_option maxRecDepth 100000
set_option maxHeartbeats 40000000
namespace Go.Proofs.YtglepipfdmphhaaGreatDoor
set_option linter.unusedVariables false
set_option linter.unusedSimpArgs false
open Go Go.RowKit Go.Shelf
attribute [local irreducible] Go.wpStill
namespace Pr
theorem fieldsGo_all:∀ (l cur:Bytes),∀ x ∈ Lib.fieldsGo cur l,x.length≤cur.length+l.length
 | [],cur,x,h=>by
  unfold Lib.fieldsGo at h
  split at h
  · simp at h
  simp at h
  subst h
  simp
 | b :: l,cur,x,h=>by
  unfold Lib.fieldsGo at h
  split at h
  · split at h
    · have:=fieldsGo_all l [] x h
      simp at this ⊢
      omega
    rcases List.mem_cons.1 h with rfl|h
    · simp
    have:=fieldsGo_all l [] x h
    simp at this ⊢
    omega
  have:=fieldsGo_all l _ x h
  simp at this ⊢
  omega
theorem cntF_le:∀ (l:Bytes) (b:Bool),Lib.cntF b l≤l.length
 | [],b=>by simp[Lib.cntF]
 | c :: l,b=>by
  have:=cntF_le l (Lib.isSp c)
  unfold Lib.cntF
  simp only[List.length_cons]
  split <;> omega
theorem fields_bound (s:Bytes):(Lib.fields s).length≤s.length∧∀ x ∈ Lib.fields s,x.length≤s.length:=by
 refine ⟨by rw[Lib.fields_length];exact cntF_le s true,fun x hx=>?_⟩
 have:=fieldsGo_all s [] x hx
 simpa using this
def tkN_ (l:List Bytes) (k:Nat):Nat:=((l.take k).map tokF).sum
def tbN (f:Bytes) (j:Nat):Nat:=((f.take j).map (tokB (decide (f.length≤1)))).sum
theorem tkN_step {l:List Bytes} {k:Nat} {f:Bytes} (h:l[k]? = some f):tkN_ l (k+1)=tkN_ l k+(1+tbN f f.length):=by
 obtain ⟨hk,rfl⟩:=List.getElem?_eq_some_iff.1 h
 unfold tkN_ tbN
 rw[List.take_succ_eq_append_getElem hk,List.map_append,List.sum_append,List.take_length]
 simp[tokF]
theorem tbN_step {f:Bytes} {j:Nat} (h:j < f.length):tbN f (j+1)=tbN f j+tokB (decide (f.length≤1)) f[j]:=by
 unfold tbN
 rw[List.take_succ_eq_append_getElem h,List.map_append,List.sum_append]
 simp
theorem tokB_le (o:Bool) (c:UInt8):tokB o c≤2:=by unfold tokB;split;split;omega;omega;split <;> omega
theorem tbN_le {f:Bytes} {m:Nat} (h:f.length≤m):∀ j,tbN f j≤2*m:=by
 intro j
 have h1:∀ l:Bytes,(l.map (tokB (decide (f.length≤1)))).sum≤2*l.length:=by
  intro l
  induction l with
  | nil=>simp
  | cons c l ih=>have:=tokB_le (decide (f.length≤1)) c;simp;omega
 have h2:=h1 (f.take j)
 have h3:(f.take j).length≤f.length:=by rw[List.length_take];omega
 unfold tbN
 omega
theorem tkN_le {l:List Bytes} {m:Nat} (h:∀ x ∈ l,x.length≤m):∀ k,k≤l.length→tkN_ l k≤k*(2*m+1):=by
 intro k
 induction k with
 | zero=>intro _;simp[tkN_]
 | succ k ih =>
  intro hk
  rw[tkN_step (List.getElem?_eq_getElem hk),Nat.succ_mul]
  have h1:=ih (by omega)
  have h2:=tbN_le (h _ (List.getElem_mem hk)) (l[k]).length
  omega
end Pr
theorem tokens_w (w:World) (HL:Hid (Laid w)) (s:Bytes) (HS:Hid (s.length≤20000)) (HA:Hid (∀ c ∈ s,c.toNat < 128)) :
 Calls Tryz.prog 43 #[.string ⟨s.toArray⟩] w fun e w'=>e = .returned (.int .i64 (Pr.tokens s))∧Chg [] w w':=by
 obtain ⟨fs,hfs⟩:∃ fs,fs=Lib.fields s:=⟨_,rfl⟩
 obtain ⟨n,hn⟩:∃ n,n=fs.length:=⟨_,rfl⟩
 have HN:=hd hn
 have HF:=hd hfs
 have hb:=Pr.fields_bound s
 rw[← hfs] at hb
 have HBD:=hd hb
 have hn2:n≤20000:=by have:=HS.out;rw[hn];omega
 clear hn hfs hb
 go_enter Tryz.func43,Tryz.ntmps43
 go_wp2_with fail
 refine (Tryz.strings_Fields ⟨s.toArray⟩ w (by rw[size_of9];have:=HS.out;omega) (fun j c hc=>HA.out c (List.mem_of_getElem? hc)) HL.out.sp).mono ?_
 rintro e w1 ⟨rfl,hw1⟩
 have h1:Lib.fields (⟨s.toArray⟩:ByteArray).data.toList=fs:=HF.out.symm
 rw[h1,← HN.out]
 rw[h1] at hw1
 obtain ⟨X,hX⟩:∃ X,X=w.heap.size:=⟨_,rfl⟩
 rw[← hX]
 have HX:Hid (Blk w1 X (fs.map fun l=>Value.string ⟨l.toArray⟩) 9):=hd (by rw[hw1,hX];exact Blk.new w _ _)
 have HC:=newC hw1
 clear h1 hw1 hX
 go_wp2_with fail
 go_loop [3,10] (fun m i=>∃ k:Nat,i = .int .i64 (k:Int)∧m = .int .i64 (Pr.tkN_ fs k:Int)∧k≤n) (fun _ i=>n - intN i)
 case atStart=>exact ⟨0,rfl,by simp[Pr.tkN_],Nat.zero_le _⟩
 case round =>
  obtain ⟨k,rfl,rfl,hk⟩:=hrel
  have hm:=Pr.tkN_le HBD.out.2 k (by rw[← HN.out];exact hk)
  obtain ⟨m,hmm⟩:∃ m,m=Pr.tkN_ fs k:=⟨_,rfl⟩
  have hm9:m≤900000000:=by
   have h2:=HS.out
   have h3:k*(2*s.length+1)≤20000*(2*20000+1):=Nat.mul_le_mul (by omega) (by omega)
   omega
  rw[← hmm]
  have HM:=hd hmm
  clear hm hmm
  by_cases hlt:k < n
  · obtain ⟨f,hf⟩:∃ f,fs[k]? = some f:=⟨fs[k]'(by rw[← HN.out];exact hlt),by simp⟩
    have c0:w1.cell? ⟨X,k,none⟩=some (.string ⟨f.toArray⟩):=HX.out.cell (i:=k) (by rw[List.getElem?_map,hf];rfl)
    have HST:=hd (Pr.tkN_step hf)
    have hfl:f.length≤s.length:=HBD.out.2 f (List.mem_of_getElem? hf)
    have hf2:f.length≤20000:=by have:=HS.out;omega
    have HTB:=hd (Pr.tbN_le hf2)
    obtain ⟨sb,hsb⟩:∃ sb:ByteArray,sb=⟨f.toArray⟩:=⟨_,rfl⟩
    have HSB:=hd hsb
    have HSZ:Hid (sb.size=f.length):=hd (by rw[hsb];exact size_of9 f)
    rw[← hsb] at c0
    have q1:(k:Int) < (n:Int):=by omega
    have q0:(0:Int)≤(k:Int):=by omega
    clear hf hsb hfl
    go_wp2_with fail
    clear c0
    go_loop [3,6] (fun u i=>∃ j:Nat,i = .int .i64 (j:Int)∧u = .int .i64 ((m+1+Pr.tbN f j:Nat):Int)∧j≤f.length) (fun _ i=>f.length - intN i)
    case atStart=>exact ⟨0,rfl,by simp[Pr.tbN],Nat.zero_le _⟩
    case round =>
     obtain ⟨j,rfl,rfl,hj⟩:=hrel
     have hu:=HTB.out j
     obtain ⟨u,huu⟩:∃ u,u=m+1+Pr.tbN f j:=⟨_,rfl⟩
     have hu9:u≤900040001:=by omega
     have HU:=hd huu
     rw[← huu]
     clear hu huu
     by_cases hjl:j < f.length
     · have r1:(j:Int) < (sb.size:Int):=by rw[HSZ.out];omega
       have r0:(0:Int)≤(j:Int):=by omega
       have hkk:j < sb.size:=by rw[HSZ.out];exact hjl
       have HG:=hd (sb_get HSB hkk hjl)
       have HS2:=hd (Pr.tbN_step hjl)
       by_cases c59:f[j]=59
       · have m59:((sb[j].toNat:Int) == 59)=true:=by rw[HG.out,c59];rfl
         by_cases h1l:f.length≤1
         · have hsz:¬ (1:Int) < (sb.size:Int):=by rw[HSZ.out];omega
           have HV:Hid (Pr.tbN f (j+1)=Pr.tbN f j):=hd (by rw[HS2.out];simp[Pr.tokB,c59,h1l])
           clear c59
           go_wp2_with fail
           go_round
           case rel=>exact ⟨j+1,vint (by omega),vint (by rw[HV.out,← HU.out]),by omega⟩
           case measure=>simp[intN];omega
         have hsz:(1:Int) < (sb.size:Int):=by rw[HSZ.out];omega
         have HV:Hid (Pr.tbN f (j+1)=Pr.tbN f j+1):=hd (by rw[HS2.out];simp[Pr.tokB,c59,h1l])
         clear c59
         go_wp2_with fail
         go_round
         case rel=>exact ⟨j+1,vint (by omega),vint (by rw[HV.out];have:=HU.out;omega),by omega⟩
         case measure=>simp[intN];omega
       have m59:((sb[j].toNat:Int) == 59)=false:=by
        rw[HG.out,beq_eq_false_iff_ne]
        intro h
        exact c59 (UInt8.toNat_inj.1 (by have:(59:UInt8).toNat=59:=rfl;omega))
       by_cases c47:f[j]=47
       · have m47:((sb[j].toNat:Int) == 47)=true:=by rw[HG.out,c47];rfl
         have HV:Hid (Pr.tbN f (j+1)=Pr.tbN f j+2):=hd (by rw[HS2.out];simp[Pr.tokB,c47])
         clear c59 c47
         go_wp2_with fail
         go_round
         case rel=>exact ⟨j+1,vint (by omega),vint (by rw[HV.out];have:=HU.out;omega),by omega⟩
         case measure=>simp[intN];omega
       have m47:((sb[j].toNat:Int) == 47)=false:=by
        rw[HG.out,beq_eq_false_iff_ne]
        intro h
        exact c47 (UInt8.toNat_inj.1 (by have:(47:UInt8).toNat=47:=rfl;omega))
       by_cases c46:f[j]=46
       · have m46:((sb[j].toNat:Int) == 46)=true:=by rw[HG.out,c46];rfl
         have HV:Hid (Pr.tbN f (j+1)=Pr.tbN f j+2):=hd (by rw[HS2.out];simp[Pr.tokB,c46])
         clear c59 c47 c46
         go_wp2_with fail
         go_round
         case rel=>exact ⟨j+1,vint (by omega),vint (by rw[HV.out];have:=HU.out;omega),by omega⟩
         case measure=>simp[intN];omega
       have m46:((sb[j].toNat:Int) == 46)=false:=by
        rw[HG.out,beq_eq_false_iff_ne]
        intro h
        exact c46 (UInt8.toNat_inj.1 (by have:(46:UInt8).toNat=46:=rfl;omega))
       have HV:Hid (Pr.tbN f (j+1)=Pr.tbN f j):=hd (by rw[HS2.out];simp[Pr.tokB,c59,c47,c46])
       clear c59 c47 c46
       go_wp2_with fail
       go_round
       case rel=>exact ⟨j+1,vint (by omega),vint (by rw[HV.out,← HU.out]),by omega⟩
       case measure=>simp[intN];omega
     have r1:¬ (j:Int) < (sb.size:Int):=by rw[HSZ.out];omega
     have hje:j=f.length:=by omega
     have HUE:Hid (u=Pr.tkN_ fs (k+1)):=hd (by have h1:=HU.out;have h2:=HST.out;have h3:=HM.out;rw[hje] at h1;omega)
     clear hje
     go_wp2_with fail
     go_round
     case rel=>exact ⟨k+1,vint (by omega),vint (by rw[HUE.out]),by omega⟩
     case measure=>simp[intN];omega
  have q1:¬ (k:Int) < (n:Int):=by omega
  have HE:Hid (m=Pr.tokens s):=hd (by
   have h1:fs.take k=fs:=List.take_of_length_le (by rw[← HN.out];omega)
   rw[HM.out]
   unfold Pr.tkN_ Pr.tokens
   rw[h1,HF.out])
  go_wp2_with fail
  go_ret
  exact ⟨by rw[HE.out];rfl,HC.out⟩
theorem end_r {T:TypeId} {b deep:Nat} {w0 w:World} (HL:Hid (Laid w0)) (HB0:Hid (w0.heap.size≤b)) (HQ:Hid (Chg [] w0 w)) {bad:Bool} {out:Bytes} {v:Value} (HW:Hid (Wst T b deep bad out v w)) (HA:Hid (bad=false→out.length≤20000→∀ c ∈ out,c.toNat < 128)) {R:Ending→World→Prop}
 (h:∀ w',Chg [] w0 w'→R (.returned (.tuple #[.string ⟨(Pr.fin (!bad) out).1.toArray⟩,.int .i64 ((Pr.fin (!bad) out).2:Nat)])) w') :
 Calls Tryz.prog 19 #[.pointer (some ⟨b,0,none⟩)] w R:=by
 have HR:=hd h
 clear h
 obtain ⟨o,h1,h2,h3⟩:=HW.out
 have H1:=hd h1
 have H3:=hd h3
 obtain ⟨p,hp,hb⟩:=h1.blk
 have HB:=hd hb
 clear h1 h3 hb
 go_enter Tryz.func19,Tryz.ntmps19
 go_wp2_with fail
 refine (string_w b w o _ v H1).mono ?_
 rintro e w1 ⟨rfl,h4⟩
 have hge:∀ k,v.ownBlock=some k→b+1≤k:=fun k hk=>(H1.out.ge k hk).1
 have HC:Hid (Chg [] w0 w1):=hd (HQ.out.trans h4 (fun k hk=>.inr (by
  have h5:=HB0.out
  rw[Option.mem_toList] at hk
  have:=hge k hk
  omega)))
 have c3:w1.cell? ⟨b,3,none⟩=some (.bool bad):=(h4.blk HB.out (by
  rw[Option.mem_toList]
  intro h
  have:=hge b h
  omega)).cell (i:=3) rfl
 clear hge h4
 cases bad with
 | true =>
  go_wp2_with fail
  exact HR.out w1 HC.out
 | false =>
  have he:o=out:=H3.out rfl
  subst he
  obtain ⟨sb,hsb⟩:∃ sb:ByteArray,sb=⟨o.toArray⟩:=⟨_,rfl⟩
  have HSB:=hd hsb
  have HSZ:Hid (sb.size=o.length):=hd (by rw[hsb];exact size_of9 o)
  rw[← hsb]
  clear hsb
  by_cases hlen:20000 < o.length
  · have k0:(20000:Int) < (sb.size:Int):=by rw[HSZ.out];omega
    have HE:Hid (Pr.fin (!false) o=([],3)):=hd (by simp[Pr.fin,hlen])
    clear hlen
    go_wp2_with fail
    have:=HR.out w1 HC.out
    rw[HE.out] at this
    exact this
  have k0:¬ (20000:Int) < (sb.size:Int):=by rw[HSZ.out];omega
  go_wp2_with fail
  rw[HSB.out]
  refine (tokens_w w1 (hd (HL.out.quiet HC.out)) o (hd (by omega)) (hd (HA.out (by first|rfl|trivial) (by omega)))).mono ?_
  rintro e w2 ⟨rfl,h6⟩
  have HC2:Hid (Chg [] w0 w2):=hd (HC.out.trans h6 (by simp))
  clear h6
  have k2:¬ (20000:Int) < (o.length:Int):=by omega
  obtain ⟨tk,htk⟩:∃ tk,tk=Pr.tokens o:=⟨_,rfl⟩
  rw[← htk]
  have HTK:=hd htk
  clear htk
  by_cases ht:5000 < tk
  · have k1:(5000:Int) < (tk:Int):=by omega
    have HE:Hid (Pr.fin (!false) o=([],3)):=hd (by rw[HTK.out] at ht;simp[Pr.fin,ht])
    clear ht hlen
    go_wp2_with fail
    have:=HR.out w2 HC2.out
    rw[HE.out] at this
    exact this
  have k1:¬ (5000:Int) < (tk:Int):=by omega
  have HE:Hid (Pr.fin (!false) o=(o,0)):=hd (by rw[HTK.out] at ht;simp[Pr.fin,ht,hlen])
  clear ht hlen
  go_wp2_with fail
  have:=HR.out w2 HC2.out
  rw[HE.out] at this
  exact this
end Go.Proofs.YtglepipfdmphhaaGreatDoor
