/-
  PrC, PrK, PrL in one text.
-/
import Derived.Test.YtglepipfdmphhaaGreatDoorPrB
import Derived.Test.YtglepipfdmphhaaGreatDoorLxL
namespace Go.Proofs.YtglepipfdmphhaaGreatDoor
set_option linter.unusedVariables false
set_option linter.unusedSimpArgs false
open Go Go.RowKit
namespace Pr
open Lx (Tk cls word dig wl tok mk sc num)
def NB (z:Bytes):Prop:=∀ d q,z=d :: q→word d=false∧d≠61
theorem wl_nb (p:UInt8→Bool):∀ (t z:Bytes),(∀ c ∈ t,p c=true)→(∀ d q,z=d :: q→p d=false)→wl p (t++z)=t.length
 | [],z,_,hz=>by
  cases z with
  | nil=>rfl
  | cons d q =>
   show wl p (d :: q)=0
   unfold wl
   rw[if_neg (by rw[hz d q rfl];decide)]
 | c :: t,z,ht,hz=>by
  show wl p (c :: (t++z))=_
  unfold wl
  rw[if_pos (ht c (by simp)),wl_nb p t z (fun d hd=>ht d (by simp[hd])) hz]
  rfl
theorem nb_dig {d:UInt8} (h:word d=false):dig d=false∧cls d≠3∧cls d≠5:=by
 unfold word at h
 rw[decide_eq_false_iff_not] at h
 unfold dig
 rw[decide_eq_false_iff_not]
 omega
theorem name_parts {x:Bytes} (h:nameOk x=true):∃ c t,x=c :: t∧cls c=3∧(∀ d ∈ c :: t,word d=true)∧x.length≤24:=by
 unfold nameOk at h
 simp only[Bool.and_eq_true,decide_eq_true_eq,List.all_eq_true] at h
 obtain ⟨h0,h1,h2,h3⟩:=h
 cases x with
 | nil=>simp at h0
 | cons c t=>exact ⟨c,t,rfl,by simpa using h2,h3,h1⟩
theorem sc_name {x z:Bytes} (hx:nameOk x=true) (hz:NB z) (o:Nat):sc o (x++z)=(⟨1,x,0,o⟩,0) :: sc (o+x.length) z:=by
 obtain ⟨c,t,rfl,hc,hw,hl⟩:=name_parts hx
 have h1:wl word ((c :: t)++z)=(c :: t).length:=wl_nb word _ _ hw (fun d q e=>(hz d q e).1)
 have h2:tok ((c :: t)++z)=(1,(c :: t).length,0):=by
  show tok (c :: (t++z))=_
  rw[Lx.tok_cons,if_pos hc]
  rw[show c :: (t++z)=(c :: t)++z from rfl,h1,if_neg (by omega)]
 show sc o (c :: (t++z))=_
 rw[Lx.sc_tok (by rw[hc];decide) (by rw[hc];decide) (by rw[show c :: (t++z)=(c :: t)++z from rfl,h2])]
 rw[show c :: (t++z)=(c :: t)++z from rfl,h2]
 unfold mk
 rw[h2]
 simp only[List.take_left,List.drop_left]
 rfl
theorem dec_go (n:Nat) (h:¬ n < 10):Lib.decDigits n=Lib.decDigits (n / 10)++[UInt8.ofNat (48+n % 10)]:=by rw[Lib.decDigits,dif_neg h]
theorem dec_ind {P:Nat→Prop} (h1:∀ n,n < 10→P n) (h2:∀ n,¬ n < 10→P (n / 10)→P n) (n:Nat):P n:=by
 induction n using Nat.strongRecOn with
 | ind n ih =>
  by_cases h:n < 10
  · exact h1 n h
  exact h2 n h (ih (n / 10) (by omega))
theorem dig_cls:∀ k,k < 10→cls (UInt8.ofNat (48+k))=4∧(UInt8.ofNat (48+k)).toNat=48+k:=by decide
theorem dec_cls (n:Nat):∀ c ∈ Lib.decDigits n,cls c=4:=by
 induction n using dec_ind with
 | h1 n h =>
  rw[Lib.decDigits_one h]
  intro c hc
  rw[List.mem_singleton] at hc
  rw[hc]
  exact (dig_cls n h).1
 | h2 n h ih =>
  rw[dec_go n h]
  intro c hc
  rcases List.mem_append.1 hc with hc|hc
  · exact ih c hc
  rw[List.mem_singleton] at hc
  rw[hc]
  exact (dig_cls _ (Nat.mod_lt _ (by decide))).1
theorem num_snoc (l:Bytes) (c:UInt8):num (l++[c])=10*num l+(c.toNat - 48):=by
 unfold num
 rw[List.foldl_append]
 rfl
theorem dec_num (n:Nat):num (Lib.decDigits n)=n:=by
 induction n using dec_ind with
 | h1 n h =>
  rw[Lib.decDigits_one h,show [UInt8.ofNat (48+n)]=[]++[UInt8.ofNat (48+n)] from rfl,num_snoc,(dig_cls n h).2]
  show 10*0+_=_
  omega
 | h2 n h ih =>
  rw[dec_go n h,num_snoc,ih,(dig_cls _ (Nat.mod_lt _ (by decide))).2]
  omega
theorem dec_ne (n:Nat):Lib.decDigits n≠[]:=by
 intro h
 have:=Lib.nDigits_pos n
 rw[← Lib.decDigits_length,h] at this
 simp at this
theorem dec_len {n:Nat} (h:n≤9999999999):(Lib.decDigits n).length≤10:=by
 rw[Lib.decDigits_length]
 rcases Nat.lt_or_ge (Lib.nDigits n) 11 with h1|h1
 · omega
 exfalso
 have h2:∀ k m:Nat,Lib.nDigits m=k+1→10 ^ k≤m∨k=0:=by
  intro k
  induction k with
  | zero=>exact fun m _=>.inr rfl
  | succ k ih =>
   intro m hm
   by_cases hs:m < 10
   · rw[Lib.nDigits_small hs] at hm
     omega
   rw[Lib.nDigits_big hs] at hm
   rcases ih (m / 10) (by omega) with h3|h3
   · refine .inl ?_
     rw[Nat.pow_succ]
     omega
   subst h3
   refine .inl ?_
   omega
 obtain ⟨k,hk⟩:∃ k,Lib.nDigits n=k+1:=⟨Lib.nDigits n - 1,by omega⟩
 rcases h2 k n hk with h3|h3
 · have h4:10 ^ 10≤10 ^ k:=Nat.pow_le_pow_right (by decide) (by omega)
   omega
 omega
theorem numOk_iff {n:Int}:numOk n=true↔0≤n∧n≤9999999999:=by simp[numOk]
theorem itoa_dec {n:Int} (h:0≤n):Lib.itoa n=Lib.decDigits n.toNat:=by
 unfold Lib.itoa
 rw[if_neg (by omega)]
theorem sc_num {n:Int} (hn:numOk n=true) {z:Bytes} (hz:NB z) (o:Nat):sc o (Lib.itoa n++z)=(⟨2,Lib.itoa n,n.toNat,o⟩,0) :: sc (o+(Lib.itoa n).length) z:=by
 rw[numOk_iff] at hn
 rw[itoa_dec hn.1]
 generalize hm:n.toNat=m
 have hm9:m≤9999999999:=by omega
 have hc4:=dec_cls m
 have hnm:=dec_num m
 have hln:=dec_len hm9
 cases hd:Lib.decDigits m with
 | nil=>exact absurd hd (dec_ne m)
 | cons c t =>
  rw[hd] at hc4 hnm hln
  have hc:cls c=4:=hc4 c (by simp)
  have h1:wl dig ((c :: t)++z)=(c :: t).length:=wl_nb dig _ _ (fun d hd=>by unfold dig;rw[decide_eq_true_iff];exact hc4 d hd) (fun d q e=>(nb_dig (hz d q e).1).1)
  have h3:Lx.sticks z=false:=by
   cases z with
   | nil=>rfl
   | cons d q =>
    have:=nb_dig (hz d q rfl).1
    unfold Lx.sticks
    rw[decide_eq_false_iff_not]
    omega
  have h2:tok ((c :: t)++z)=(2,(c :: t).length,0):=by
   show tok (c :: (t++z))=_
   rw[Lx.tok_cons,if_neg (by rw[hc];decide),if_pos hc]
   rw[show c :: (t++z)=(c :: t)++z from rfl,h1,List.drop_left,if_neg (by rw[h3];simp only[Bool.false_eq_true,or_false];omega)]
  show sc o (c :: (t++z))=_
  rw[Lx.sc_tok (by rw[hc];decide) (by rw[hc];decide) (by rw[show c :: (t++z)=(c :: t)++z from rfl,h2])]
  rw[show c :: (t++z)=(c :: t)++z from rfl,h2]
  unfold mk
  rw[h2]
  simp only[List.take_left,List.drop_left]
  rw[if_pos ⟨trivial,trivial⟩,hnm]
theorem sc_sym {c:UInt8} (hc:cls c=6) (z:Bytes) (o:Nat):sc o (c :: z)=(⟨3,[c],0,o⟩,0) :: sc (o+1) z:=by
 have h2:tok (c :: z)=(3,1,0):=by
  rw[Lx.tok_cons,if_neg (by rw[hc];decide),if_neg (by rw[hc];decide),if_pos (.inl hc),if_neg (by rw[hc];simp),if_neg (by rw[hc];decide)]
 rw[Lx.sc_tok (by rw[hc];decide) (by rw[hc];decide) (by rw[h2]),h2]
 unfold mk
 rw[h2]
 rfl
theorem sc_op1 {c:UInt8} (hc:cls c=7) {z:Bytes} (hz:NB z) (o:Nat):sc o (c :: z)=(⟨3,[c],0,o⟩,0) :: sc (o+1) z:=by
 have h2:tok (c :: z)=(3,1,0):=by
  rw[Lx.tok_cons,if_neg (by rw[hc];decide),if_neg (by rw[hc];decide),if_pos (.inr (.inl hc)),if_neg,if_neg (by rw[hc];decide)]
  rintro ⟨_,h⟩
  cases z with
  | nil=>simp at h
  | cons d q =>
   simp only[List.head?_cons,Option.some.injEq] at h
   exact (hz d q rfl).2 h
 rw[Lx.sc_tok (by rw[hc];decide) (by rw[hc];decide) (by rw[h2]),h2]
 unfold mk
 rw[h2]
 rfl
theorem sc_op2 {c:UInt8} (hc:cls c=7∨cls c=8) (z:Bytes) (o:Nat):sc o (c :: 61 :: z)=(⟨3,[c,61],0,o⟩,0) :: sc (o+2) z:=by
 have h2:tok (c :: 61 :: z)=(3,2,0):=by
  rw[Lx.tok_cons,if_neg (by omega),if_neg (by omega),if_pos (.inr hc),if_pos ⟨by omega,rfl⟩]
 rw[Lx.sc_tok (by omega) (by omega) (by rw[h2]),h2]
 unfold mk
 rw[h2]
 rfl
def rz (t:Tk):Tk:={ t with at_:=0 }
def Em (s:Bytes) (ts:List Tk):Prop:=∀ (o:Nat) (z:Bytes),NB z→∃ l:List Tk,sc o (s++z)=l.map (fun t=>(t,0))++sc (o+s.length) z∧l.map rz=ts
def Bg (s:Bytes):Prop:=∀ z,NB z→NB (s++z)
theorem Bg.nil:Bg []:=fun z h=>h
theorem Bg.cons {c:UInt8} {s:Bytes} (h:word c=false∧c≠61):Bg (c :: s):=fun z _ d q e=>by
 cases e
 exact h
theorem Bg.append {s s':Bytes} (h:Bg s) (h':Bg s'):Bg (s++s'):=fun z hz=>by
 rw[List.append_assoc]
 exact h _ (h' z hz)
theorem Bg.head {s s':Bytes} (h:Bg s) (hs:s≠[]):Bg (s++s'):=fun z hz=>by
 cases s with
 | nil=>exact absurd rfl hs
 | cons c s=>exact Bg.cons (h [] (fun d q e=>by cases e) c s (by simp)) z hz
theorem Em.nil:Em [] []:=fun o z _=>⟨[],rfl,rfl⟩
theorem Em.append {s s':Bytes} {ts ts':List Tk} (h:Em s ts) (h':Em s' ts') (hb:Bg s'):Em (s++s') (ts++ts'):=fun o z hz=>by
 obtain ⟨l,h1,h2⟩:=h o (s'++z) (hb z hz)
 obtain ⟨m,h3,h4⟩:=h' (o+s.length) z hz
 refine ⟨l++m,?_,by rw[List.map_append,h2,h4]⟩
 rw[List.append_assoc,h1,h3,List.map_append,List.append_assoc,List.length_append,Nat.add_assoc]
theorem Em.blank {c:UInt8} (hc:cls c=1) {s:Bytes} {ts:List Tk} (h:Em s ts):Em (c :: s) ts:=fun o z hz=>by
 obtain ⟨l,h1,h2⟩:=h (o+1) z hz
 refine ⟨l,?_,h2⟩
 show sc o (c :: (s++z))=_
 rw[Lx.sc_blank hc,h1,List.length_cons,Nat.add_assoc,Nat.add_comm 1]
def tkN (x:Bytes):Tk:=⟨1,x,0,0⟩
def tkI (n:Int):Tk:=⟨2,Lib.itoa n,n.toNat,0⟩
def tkS (x:Bytes):Tk:=⟨3,x,0,0⟩
theorem Em.name {x:Bytes} (hx:nameOk x=true):Em x [tkN x]:=fun o z hz=>⟨[⟨1,x,0,o⟩],by rw[sc_name hx hz];rfl,rfl⟩
theorem Em.num {n:Int} (hn:numOk n=true):Em (Lib.itoa n) [tkI n]:=fun o z hz=>⟨[⟨2,Lib.itoa n,n.toNat,o⟩],by rw[sc_num hn hz];rfl,rfl⟩
theorem Em.sym {c:UInt8} (hc:cls c=6) {s:Bytes} {ts:List Tk} (h:Em s ts):Em (c :: s) (tkS [c] :: ts):=fun o z hz=>by
 obtain ⟨l,h1,h2⟩:=h (o+1) z hz
 refine ⟨⟨3,[c],0,o⟩ :: l,?_,by rw[List.map_cons,h2];rfl⟩
 show sc o (c :: (s++z))=_
 rw[sc_sym hc,h1,List.length_cons,Nat.add_assoc,Nat.add_comm 1]
 rfl
theorem Em.op1 {c:UInt8} (hc:cls c=7) {s:Bytes} {ts:List Tk} (h:Em s ts) (hb:Bg s):Em (c :: s) (tkS [c] :: ts):=fun o z hz=>by
 obtain ⟨l,h1,h2⟩:=h (o+1) z hz
 refine ⟨⟨3,[c],0,o⟩ :: l,?_,by rw[List.map_cons,h2];rfl⟩
 show sc o (c :: (s++z))=_
 rw[sc_op1 hc (hb z hz),h1,List.length_cons,Nat.add_assoc,Nat.add_comm 1]
 rfl
theorem Em.op2 {c:UInt8} (hc:cls c=7∨cls c=8) {s:Bytes} {ts:List Tk} (h:Em s ts):Em (c :: 61 :: s) (tkS [c,61] :: ts):=fun o z hz=>by
 obtain ⟨l,h1,h2⟩:=h (o+2) z hz
 refine ⟨⟨3,[c,61],0,o⟩ :: l,?_,by rw[List.map_cons,h2];rfl⟩
 show sc o (c :: 61 :: (s++z))=_
 rw[sc_op2 hc,h1,List.length_cons,List.length_cons,Nat.add_assoc,Nat.add_assoc,show 2+s.length=s.length+(1+1) by omega]
 rfl
theorem Em.flat {α:Type} {f:α→Bytes} {g:α→List Tk}:∀ l:List α,(∀ x ∈ l,Em (f x) (g x)∧Bg (f x))→Em (l.flatMap f) (l.flatMap g)∧Bg (l.flatMap f)
 | [],_=>⟨Em.nil,Bg.nil⟩
 | x :: l,h=>by
  have h1:=h x (by simp)
  have h2:=Em.flat l (fun y hy=>h y (by simp[hy]))
  simp only[List.flatMap_cons]
  exact ⟨h1.1.append h2.1 h2.2,h1.2.append h2.2⟩
theorem bl:cls 32=1∧(word 32=false∧(32:UInt8)≠61):=by decide
theorem flat_one {α β:Type} (f:α→β):∀ l:List α,l.flatMap (fun x=>[f x])=l.map f
 | []=>rfl
 | x :: l=>by
  rw[List.flatMap_cons,flat_one f l]
  rfl
theorem Em.nums {l:List Int} (h:numsOk l=true):Em (nums l) (l.map tkI)∧Bg (nums l):=by
 have h1:=Em.flat (f:=fun n=>32 :: Lib.itoa n) (g:=fun n=>[tkI n]) l (fun n hn=>⟨Em.blank bl.1 (Em.num (List.all_eq_true.1 h n hn)),Bg.cons bl.2⟩)
 refine ⟨?_,h1.2⟩
 have h2:=h1.1
 rw[flat_one] at h2
 exact h2
theorem Em.all {s:Bytes} {ts:List Tk} (h:Em s ts) (o:Nat):∃ l:List Tk,sc o s=l.map (fun t=>(t,0))∧l.map rz=ts:=by
 obtain ⟨l,h1,h2⟩:=h o [] (fun d q e=>by cases e)
 rw[List.append_nil,Lx.sc_nil,List.append_nil] at h1
 exact ⟨l,h1,h2⟩
end Pr
end Go.Proofs.YtglepipfdmphhaaGreatDoor
namespace Go.Proofs.YtglepipfdmphhaaGreatDoor
set_option linter.unusedVariables false
set_option linter.unusedSimpArgs false
open Go Go.RowKit
namespace Pr
open Lx (Tk cls word dig wl tok mk sc num)
theorem u8_all {p:UInt8→Bool} (h:∀ n,n < 256→p (UInt8.ofNat n)=true) (c:UInt8):p c=true:=by
 have:=h c.toNat c.toNat_lt
 rwa [UInt8.ofNat_toNat] at this
def ex (c:UInt8):Nat:=if c=47∨c=46 then 2 else 0
theorem word_facts {c:UInt8} (h:word c=true):(Lib.isSp c=false∧c≠59∧c.toNat < 128)∧ex c=0∧c≠123∧c≠125:=by
 have h1:=u8_all (p:=fun c=>!word c || (!Lib.isSp c && (decide (c≠59) && (decide (c.toNat < 128) && (decide (ex c=0) && (decide (c≠123) && decide (c≠125))))))) (by decide +kernel) c
 simp[h] at h1
 exact ⟨⟨h1.1,h1.2.1,h1.2.2.1⟩,h1.2.2.2.1,h1.2.2.2.2.1,h1.2.2.2.2.2⟩
theorem dig_word {c:UInt8} (h:cls c=4):word c=true:=by simp[word,h]
theorem tokB_ex {c:UInt8} (o:Bool) (h:c≠59):tokB o c=ex c:=by unfold tokB ex;rw[if_neg h]
structure Wo (x:Bytes) (k:Nat):Prop where
 ne:x≠[]
 sp:∀ c ∈ x,Lib.isSp c=false∧c≠59∧c.toNat < 128
 cnt:1+(x.map ex).sum=k
theorem Wo.tokF {x:Bytes} {k:Nat} (h:Wo x k):tokF x=k:=by
 have h1:x.map (tokB (decide (x.length≤1)))=x.map ex:=List.map_congr_left (fun c hc=>tokB_ex _ (h.sp c hc).2.1)
 unfold Pr.tokF
 rw[h1,h.cnt]
theorem Wo.tokF2 {x:Bytes} {k:Nat} (h:Wo x k):Pr.tokF (x++[59])=k+1:=by
 have h0:¬ (x++[59]).length≤1:=by
  have:=List.length_pos_iff.2 h.ne
  rw[List.length_append,List.length_singleton]
  omega
 have h1:x.map (tokB false)=x.map ex:=List.map_congr_left (fun c hc=>tokB_ex _ (h.sp c hc).2.1)
 unfold Pr.tokF
 rw[decide_eq_false h0,List.map_append,h1,List.sum_append]
 have:=h.cnt
 simp[tokB]
 omega
theorem Wo.append {x y:Bytes} {j k:Nat} (h:Wo x j) (h':Wo y k):Wo (x++y) (j+k - 1) :=
 ⟨by simp[h.ne],fun c hc=>(List.mem_append.1 hc).elim (h.sp c) (h'.sp c),by
  have:=h.cnt
  have:=h'.cnt
  rw[List.map_append,List.sum_append]
  omega⟩
theorem Wo.word {x:Bytes} (h0:x≠[]) (h:∀ c ∈ x,Lx.word c=true):Wo x 1 :=
 ⟨h0,fun c hc=>(word_facts (h c hc)).1,by
  have h1:x.map ex=x.map (fun _=>0):=List.map_congr_left (fun c hc=>(word_facts (h c hc)).2.1)
  rw[h1]
  clear h0 h h1
  induction x with
  | nil=>rfl
  | cons c x ih=>simpa using ih⟩
theorem Wo.name {x:Bytes} (h:nameOk x=true):Wo x 1:=by
 obtain ⟨c,t,rfl,_,hw,_⟩:=name_parts h
 exact Wo.word (by simp) hw
theorem Wo.num {n:Int} (h:numOk n=true):Wo (Lib.itoa n) 1:=by
 rw[itoa_dec (numOk_iff.1 h).1]
 exact Wo.word (dec_ne _) (fun c hc=>dig_word (dec_cls _ c hc))
def T (s:Bytes):Nat:=tokens s
def SpB (z:Bytes):Prop:=∀ d q,z=d :: q→Lib.isSp d=true
theorem SpB.nil:SpB []:=fun d q e=>by cases e
theorem SpB.cons {c:UInt8} (h:Lib.isSp c=true) (s:Bytes):SpB (c :: s):=fun d q e=>by cases e;exact h
theorem go_word:∀ (x acc z:Bytes),(∀ c ∈ x,Lib.isSp c=false)→Lib.fieldsGo acc (x++z)=Lib.fieldsGo (acc++x) z
 | [],acc,z,_=>by simp
 | c :: x,acc,z,h=>by
  show Lib.fieldsGo acc (c :: (x++z))=_
  rw[Lib.fieldsGo_more acc c _ (h c (by simp)),go_word x _ z (fun d hd=>h d (by simp[hd])),List.append_assoc]
  rfl
theorem T_word {x z:Bytes} (h0:x≠[]) (h:∀ c ∈ x,Lib.isSp c=false) (hz:SpB z):T (x++z)=tokF x+T z:=by
 have h1:Lib.fields (x++z)=x :: Lib.fields z:=by
  unfold Lib.fields
  rw[go_word x [] z h,List.nil_append]
  cases z with
  | nil =>
   cases x with
   | nil=>exact absurd rfl h0
   | cons c x=>rfl
  | cons d q=>rw[Lib.fieldsGo_end x d q (hz d q rfl) h0,Lib.fieldsGo_sp d q (hz d q rfl)]
 unfold T Pr.tokens
 rw[h1]
 rfl
theorem T_sp {c:UInt8} (h:Lib.isSp c=true) (s:Bytes):T (c :: s)=T s:=by
 unfold T Pr.tokens Lib.fields
 rw[Lib.fieldsGo_sp c s h]
theorem T_nil:T []=0:=rfl
structure Ws (s:Bytes) (k:Nat):Prop where
 ne:s≠[]
 hd:∀ d q,s=d :: q→d≠32
 last:s.getLast?≠some 32
 ok:∀ c ∈ s,c≠9∧c≠10∧c≠59∧c.toNat < 128
 two:∀ a b,s≠a++32 :: 32 :: b
 cnt:∀ z,SpB z→T (s++z)=k+T z
 cnt2:∀ z,SpB z→T (s++59 :: z)=k+1+T z
theorem Wo.ws {x:Bytes} {k:Nat} (h:Wo x k):Ws x k where
 ne:=h.ne
 hd:=fun d q e=>by
  have:=(h.sp d (by rw[e];simp)).1
  rintro rfl
  exact absurd this (by decide)
 last:=fun e=>by
  have:=(h.sp 32 (List.mem_of_getLast? e)).1
  exact absurd this (by decide)
 ok:=fun c hc=>⟨fun e=>by have:=(h.sp c hc).1;rw[e] at this;exact absurd this (by decide),fun e=>by have:=(h.sp c hc).1;rw[e] at this;exact absurd this (by decide),(h.sp c hc).2⟩
 two:=fun a b e=>by
  have:=(h.sp 32 (by rw[e];simp)).1
  exact absurd this (by decide)
 cnt:=fun z hz=>by rw[T_word h.ne (fun c hc=>(h.sp c hc).1) hz,h.tokF]
 cnt2:=fun z hz=>by
  rw[show x++59 :: z=(x++[59])++z by simp,T_word (by simp) (fun c hc=>by
   rcases List.mem_append.1 hc with hc|hc
   · exact (h.sp c hc).1
   rw[List.mem_singleton.1 hc];decide) hz,h.tokF2]
theorem Ws.append {s t:Bytes} {j k:Nat} (h:Ws s j) (h':Ws t k):Ws (s++32 :: t) (j+k) where
 ne:=by simp
 hd:=fun d q e=>by
  cases s with
  | nil=>exact absurd rfl h.ne
  | cons c s =>
   injection e with e1 e2
   exact e1 ▸ h.hd c s rfl
 last:=by
  rw[List.getLast?_append,List.getLast?_cons]
  have:=h'.last
  cases hl:t.getLast? with
  | none=>exact absurd (List.getLast?_eq_none_iff.1 hl) h'.ne
  | some c =>
   rw[hl] at this
   simpa [Option.or] using this
 ok:=fun c hc=>by
  rcases List.mem_append.1 hc with hc|hc
  · exact h.ok c hc
  rcases List.mem_cons.1 hc with rfl|hc
  · decide
  exact h'.ok c hc
 two:=fun a b e=>by
  rcases List.append_eq_append_iff.1 e with ⟨m,h1,h2⟩|⟨m,h1,h2⟩
  · cases m with
    | nil =>
     rw[List.nil_append] at h2
     cases h2
     exact h'.hd 32 b rfl rfl
    | cons c m =>
     rw[List.cons_append] at h2
     injection h2 with h3 h4
     exact h'.two m b h4
  cases m with
  | nil =>
   rw[List.nil_append] at h2
   injection h2 with h3 h4
   exact h'.hd 32 b h4.symm rfl
  | cons c m =>
   injection h2 with h3 h4
   cases m with
   | nil =>
    subst h3
    exact h.last (by rw[h1];simp)
   | cons d m =>
    injection h4 with h5 h6
    subst h3
    subst h5
    exact h.two a m (by rw[h1])
 cnt:=fun z hz=>by
  rw[List.append_assoc,List.cons_append,h.cnt _ (SpB.cons (by decide) _),T_sp (by decide),h'.cnt z hz,Nat.add_assoc]
 cnt2:=fun z hz=>by
  rw[List.append_assoc,List.cons_append,h.cnt _ (SpB.cons (by decide) _),T_sp (by decide),h'.cnt2 z hz,Nat.add_assoc,Nat.add_assoc,Nat.add_assoc]
structure Pc (s:Bytes) (ts:List Tk):Prop where
 em:Em s ts
 bg:Bg s
 wo:s=[]∧ts=[]∨∃ t,s=32 :: t∧Ws t ts.length
theorem Pc.nil:Pc [] []:=⟨Em.nil,Bg.nil,.inl ⟨rfl,rfl⟩⟩
theorem Pc.append {s t:Bytes} {ts us:List Tk} (h:Pc s ts) (h':Pc t us):Pc (s++t) (ts++us) where
 em:=h.em.append h'.em h'.bg
 bg:=h.bg.append h'.bg
 wo:=by
  rcases h.wo with ⟨rfl,rfl⟩|⟨a,rfl,ha⟩
  · rw[List.nil_append,List.nil_append]
    exact h'.wo
  rcases h'.wo with ⟨rfl,rfl⟩|⟨b,rfl,hb⟩
  · rw[List.append_nil,List.append_nil]
    exact .inr ⟨a,rfl,ha⟩
  exact .inr ⟨a++32 :: b,rfl,by rw[List.length_append];exact ha.append hb⟩
theorem Pc.word {x:Bytes} {ts:List Tk} (h:Em x ts) (hw:Wo x ts.length):Pc (32 :: x) ts:=⟨Em.blank bl.1 h,Bg.cons bl.2,.inr ⟨x,rfl,hw.ws⟩⟩
theorem Pc.name {x:Bytes} (h:nameOk x=true):Pc (32 :: x) [tkN x]:=Pc.word (Em.name h) (Wo.name h)
theorem Pc.num {n:Int} (h:numOk n=true):Pc (32 :: Lib.itoa n) [tkI n]:=Pc.word (Em.num h) (Wo.num h)
theorem Pc.flat {α:Type} {f:α→Bytes} {g:α→List Tk}:∀ l:List α,(∀ x ∈ l,Pc (f x) (g x))→Pc (l.flatMap f) (l.flatMap g)
 | [],_=>Pc.nil
 | x :: l,h=>by
  rw[List.flatMap_cons,List.flatMap_cons]
  exact (h x (by simp)).append (Pc.flat l (fun y hy=>h y (by simp[hy])))
theorem Pc.nums {l:List Int} (h:numsOk l=true):Pc (nums l) (l.map tkI):=by
 have h1:=Pc.flat (f:=fun n=>32 :: Lib.itoa n) (g:=fun n=>[tkI n]) l (fun n hn=>Pc.num (List.all_eq_true.1 h n hn))
 rw[flat_one] at h1
 exact h1
structure Hd (s:Bytes) (ts:List Tk):Prop where
 em:Em s ts
 wo:Ws s ts.length
theorem Hd.name {x:Bytes} (h:nameOk x=true):Hd x [tkN x]:=⟨Em.name h,(Wo.name h).ws⟩
theorem Hd.append {s t:Bytes} {ts us:List Tk} (h:Hd s ts) (h':Pc t us):Hd (s++t) (ts++us) where
 em:=h.em.append h'.em h'.bg
 wo:=by
  rcases h'.wo with ⟨rfl,rfl⟩|⟨b,rfl,hb⟩
  · simpa using h.wo
  rw[List.length_append]
  exact h.wo.append hb
theorem Hd.lone {s:Bytes} (k:List Tk) (h:Em s k) (h':Wo s k.length):Hd s k:=⟨h,h'.ws⟩
end Pr
end Go.Proofs.YtglepipfdmphhaaGreatDoor
namespace Go.Proofs.YtglepipfdmphhaaGreatDoor
set_option linter.unusedVariables false
set_option linter.unusedSimpArgs false
open Go Go.RowKit
namespace Pr
open Lx (Tk cls word dig wl tok mk sc num)
def EmL (s:Bytes) (ts:List Tk):Prop:=∀ (o:Nat) (z:Bytes),∃ l:List Tk,sc o (s++z)=l.map (fun t=>(t,0))++sc (o+s.length) z∧l.map rz=ts
theorem EmL.nil:EmL [] []:=fun o z=>⟨[],rfl,rfl⟩
theorem EmL.append {s s':Bytes} {ts ts':List Tk} (h:EmL s ts) (h':EmL s' ts'):EmL (s++s') (ts++ts'):=fun o z=>by
 obtain ⟨l,h1,h2⟩:=h o (s'++z)
 obtain ⟨m,h3,h4⟩:=h' (o+s.length) z
 refine ⟨l++m,?_,by rw[List.map_append,h2,h4]⟩
 rw[List.append_assoc,h1,h3,List.map_append,List.append_assoc,List.length_append,Nat.add_assoc]
theorem EmL.blank {c:UInt8} (hc:cls c=1) {s:Bytes} {ts:List Tk} (h:EmL s ts):EmL (c :: s) ts:=fun o z=>by
 obtain ⟨l,h1,h2⟩:=h (o+1) z
 refine ⟨l,?_,h2⟩
 show sc o (c :: (s++z))=_
 rw[Lx.sc_blank hc,h1,List.length_cons,Nat.add_assoc,Nat.add_comm 1]
theorem Em.line {s:Bytes} {ts:List Tk} (h:Em s ts):EmL (s++[10]) ts:=fun o z=>by
 obtain ⟨l,h1,h2⟩:=h o (10 :: z) (fun d q e=>by cases e;decide)
 refine ⟨l,?_,h2⟩
 rw[List.append_assoc,List.singleton_append,h1,Lx.sc_blank (by decide),List.length_append]
 rfl
theorem EmL.flat {α:Type} {f:α→Bytes} {g:α→List Tk}:∀ l:List α,(∀ x ∈ l,EmL (f x) (g x))→EmL (l.flatMap f) (l.flatMap g)
 | [],_=>EmL.nil
 | x :: l,h=>by
  rw[List.flatMap_cons,List.flatMap_cons]
  exact (h x (by simp)).append (EmL.flat l (fun y hy=>h y (by simp[hy])))
structure Ln (s:Bytes) (ts:List Tk):Prop where
 em:Em s ts
 ne:s≠[]
 hd:∀ d q,s=d :: q→d≠32
 last:s.getLast?≠some 32
 ok:∀ c ∈ s,c≠9∧c≠10∧c.toNat < 128
 two:∀ a b,s≠a++32 :: 32 :: b
 cnt:∀ z,SpB z→T (s++z)=ts.length+T z
theorem Hd.ln {s:Bytes} {ts:List Tk} (h:Hd s ts):Ln s ts :=
 ⟨h.em,h.wo.ne,h.wo.hd,h.wo.last,fun c hc=>⟨(h.wo.ok c hc).1,(h.wo.ok c hc).2.1,(h.wo.ok c hc).2.2.2⟩,h.wo.two,h.wo.cnt⟩
theorem Hd.semi {s:Bytes} {ts:List Tk} (h:Hd s ts):Ln (s++[59]) (ts++[tkS [59]]) where
 em:=h.em.append (Em.sym (by decide) Em.nil) (Bg.cons (by decide))
 ne:=by simp
 hd:=fun d q e=>by
  cases s with
  | nil=>exact absurd rfl h.wo.ne
  | cons c s =>
   injection e with e1 e2
   exact e1 ▸ h.wo.hd c s rfl
 last:=by simp
 ok:=fun c hc=>by
  rcases List.mem_append.1 hc with hc|hc
  · exact ⟨(h.wo.ok c hc).1,(h.wo.ok c hc).2.1,(h.wo.ok c hc).2.2.2⟩
  rw[List.mem_singleton.1 hc];decide
 two:=fun a b e=>by
  have h59:(59:UInt8) ∉ ([32,32]:Bytes):=by decide
  rcases List.eq_nil_or_concat b with rfl|⟨b',x,rfl⟩
  · have e2:s++[59]=(a++[32])++[32]:=by rw[e];simp
    exact absurd (List.append_inj_right' e2 rfl) (by decide)
  have e2:s++[59]=(a++32 :: 32 :: b')++[x]:=by rw[e];simp
  exact h.wo.two a b' (List.append_inj_left' e2 rfl)
 cnt:=fun z hz=>by
  rw[List.append_assoc,List.singleton_append,h.wo.cnt2 z hz,List.length_append]
  rfl
def Lg (s:Bytes):Prop:=s≠[]∧(∀ d q,s=d :: q→d≠32)∧s.getLast?≠some 32∧(∀ c ∈ s,c≠9∧c≠10)∧∀ a b,s≠a++32 :: 32 :: b
structure Lw (x:Nat × Bytes) (ts:List Tk):Prop where
 gd:Lg x.2
 em:EmL (lineB x) ts
 cnt:∀ z,T (lineB x++z)=ts.length+T z
 ok:∀ c ∈ lineB x,c.toNat < 128
theorem Ln.lw {s:Bytes} {ts:List Tk} (h:Ln s ts) (d:Nat):Lw (d,s) ts where
 gd:=⟨h.ne,h.hd,h.last,fun c hc=>⟨(h.ok c hc).1,(h.ok c hc).2.1⟩,h.two⟩
 em:=by
  unfold lineB
  have h1:=h.em.line
  rw[List.append_assoc]
  show EmL (List.replicate d 9++(s++[10])) ts
  induction d with
  | zero=>exact h1
  | succ d ih=>exact EmL.blank (by decide) ih
 cnt:=fun z=>by
  unfold lineB
  have h1:=h.cnt (10 :: z) (SpB.cons (by decide) z)
  rw[T_sp (by decide)] at h1
  rw[List.append_assoc,List.append_assoc,List.singleton_append]
  show T (List.replicate d 9++(s++10 :: z))=_
  induction d with
  | zero=>exact h1
  | succ d ih=>rw[List.replicate_succ,List.cons_append,T_sp (by decide),ih]
 ok:=fun c hc=>by
  unfold lineB at hc
  rcases List.mem_append.1 hc with hc|hc
  · rcases List.mem_append.1 hc with hc|hc
    · rw[(List.mem_replicate.1 hc).2];decide
    exact (h.ok c hc).2.2
  rw[List.mem_singleton.1 hc];decide
def Lws (l:List (Nat × Bytes)) (ts:List Tk):Prop:=EmL (full l) ts∧(∀ z,T (full l++z)=ts.length+T z)∧(∀ c ∈ full l,c.toNat < 128)∧∀ x ∈ l,Lg x.2
theorem Lws.nil:Lws [] []:=⟨EmL.nil,fun z=>by simp[full],fun c hc=>by simp[full] at hc,fun x hx=>by simp at hx⟩
theorem Lws.cons {x:Nat × Bytes} {l:List (Nat × Bytes)} {ts us:List Tk} (h:Lw x ts) (h':Lws l us):Lws (x :: l) (ts++us):=by
 have e:full (x :: l)=lineB x++full l:=rfl
 refine ⟨by rw[e];exact h.em.append h'.1,fun z=>by rw[e,List.append_assoc,h.cnt,h'.2.1,List.length_append,Nat.add_assoc],fun c hc=>?_,fun y hy=>(List.mem_cons.1 hy).elim (fun e=>e ▸ h.gd) (h'.2.2.2 y)⟩
 rw[e] at hc
 exact (List.mem_append.1 hc).elim (h.ok c) (h'.2.2.1 c)
theorem Lws.append {l m:List (Nat × Bytes)} {ts us:List Tk} (h:Lws l ts) (h':Lws m us):Lws (l++m) (ts++us):=by
 have e:full (l++m)=full l++full m:=List.flatMap_append
 refine ⟨by rw[e];exact h.1.append h'.1,fun z=>by rw[e,List.append_assoc,h.2.1,h'.2.1,List.length_append,Nat.add_assoc],fun c hc=>?_,fun y hy=>(List.mem_append.1 hy).elim (h.2.2.2 y) (h'.2.2.2 y)⟩
 rw[e] at hc
 exact (List.mem_append.1 hc).elim (h.2.2.1 c) (h'.2.2.1 c)
theorem Lws.flat {α:Type} {f:α→List (Nat × Bytes)} {g:α→List Tk}:∀ l:List α,(∀ x ∈ l,Lws (f x) (g x))→Lws (l.flatMap f) (l.flatMap g)
 | [],_=>Lws.nil
 | x :: l,h=>by
  rw[List.flatMap_cons,List.flatMap_cons]
  exact (h x (by simp)).append (Lws.flat l (fun y hy=>h y (by simp[hy])))
theorem Lws.map {α:Type} {f:α→Nat × Bytes} {g:α→List Tk}:∀ l:List α,(∀ x ∈ l,Lw (f x) (g x))→Lws (l.map f) (l.flatMap g)
 | [],_=>Lws.nil
 | x :: l,h=>by
  rw[List.map_cons,List.flatMap_cons]
  exact Lws.cons (h x (by simp)) (Lws.map l (fun y hy=>h y (by simp[hy])))
def markT (m:Mk):List Tk:=tkN (markW m.kind).tail :: tkI m.seat :: (if m.kind=4 then [tkN tOf.tail,tkI m.w] else [])
def rowHT (r:Rw):List Tk:=[tkN [114,111,119],tkN r.name,tkN tAt.tail,tkI r.x,tkI r.y,tkN tSeats.tail,tkI r.f,tkN tTo.tail,tkI r.t,tkN tStep.tail,tkI r.step]
def rowT (r:Rw):List Tk:=rowHT r++(r.marks.flatMap markT++[tkS [59]])
def blockT (b:Bl):List Tk:=[tkN [98,108,111,99,107],tkN b.name,tkS [123]]++(b.rows.flatMap rowT++[tkS [125]])
def areaT (a:Ar):List Tk:=[tkN [97,114,101,97],tkN a.name]++((boxN a.box).map tkI++[tkN tHolds.tail,tkI a.holds,tkS [59]])
def aisleT (b:Bx):List Tk:=tkN tAisle :: ((boxN b).map tkI++[tkS [59]])
def pillarT (b:Bx):List Tk:=tkN tPillar :: ((boxN b).map tkI++[tkS [59]])
def doorT (p:Int × Int):List Tk:=[tkN tDoor,tkI p.1,tkI p.2,tkS [59]]
def innerT (l:Lv):List Tk:=l.blocks.flatMap blockT++(l.areas.flatMap areaT++(l.aisles.flatMap aisleT++(l.pillars.flatMap pillarT++l.doors.flatMap doorT)))
def levelT (l:Lv):List Tk:=[tkN [108,101,118,101,108],tkN l.name,tkN tHeight.tail,tkI l.height,tkS [123]]++(innerT l++[tkS [125]])
def hallT (h:Hl):List Tk:=[tkN [104,97,108,108],tkN h.name,tkN tStage.tail,tkI h.sx,tkI h.sy,tkS [123]]++(h.levels.flatMap levelT++[tkS [125]])
theorem and2 {a b:Bool} (h:(a && b)=true):a=true∧b=true:=by simpa using h
theorem Pc.open:Pc tOpen [tkS [123]]:=Pc.word (Em.sym (by decide) Em.nil) ⟨by decide,by decide,by decide⟩
theorem Hd.close:Hd tClose [tkS [125]]:=Hd.lone _ (Em.sym (by decide) Em.nil) ⟨by decide,by decide,by decide⟩
theorem Pc.key {x:Bytes} (h:nameOk x=true):Pc (32 :: x) [tkN x]:=Pc.name h
theorem mark_pc {m:Mk} (h:markOk m=true):Pc (markS m) (markT m):=by
 unfold markOk at h
 obtain ⟨_,h⟩:=and2 h
 obtain ⟨_,h⟩:=and2 h
 obtain ⟨_,h⟩:=and2 h
 obtain ⟨h1,h2⟩:=and2 h
 have hk:Pc (markW m.kind) [tkN (markW m.kind).tail]:=by
  unfold markW
  split
  · exact Pc.key (x:=[103,97,112]) (by decide)
  split
  · exact Pc.key (x:=[119,104,101,101,108]) (by decide)
  split
  · exact Pc.key (x:=[104,105,100,100,101,110]) (by decide)
  exact Pc.key (x:=[98,101,115,105,100,101]) (by decide)
 have ha:=hk.append (Pc.nums (l:=[m.seat]) (by simp[numsOk,h1]))
 unfold markS markT
 by_cases h4:m.kind=4
 · rw[if_pos h4,if_pos h4]
   exact ha.append ((Pc.key (x:=[111,102]) (by decide)).append (Pc.nums (l:=[m.w]) (by simp[numsOk,h2])))
 rw[if_neg h4,if_neg h4]
 exact ha.append Pc.nil
theorem numsOk_cons (a:Int) (l:List Int):numsOk (a :: l)=(numOk a && numsOk l):=rfl
theorem nums1 {a:Int} (h:numOk a=true):Pc (nums [a]) [tkI a]:=Pc.nums (l:=[a]) (by simp[numsOk,h])
theorem nums2 {a b:Int} (h:numOk a=true) (h':numOk b=true):Pc (nums [a,b]) [tkI a,tkI b]:=Pc.nums (l:=[a,b]) (by simp[numsOk,h,h'])
theorem row_lw {r:Rw} (h:rowOk r=true):Lw (rowL r) (rowT r):=by
 unfold rowOk at h
 obtain ⟨hn,h⟩:=and2 h
 obtain ⟨hs,hm⟩:=and2 h
 simp only[numsOk,List.all_cons,List.all_nil,Bool.and_true,Bool.and_eq_true] at hs
 obtain ⟨h1,h2,h3,h4,h5⟩:=hs
 have a1:=(Hd.name (x:=[114,111,119]) (by decide)).append (Pc.name hn)
 have a2:=((((((((a1.append (Pc.key (x:=tAt.tail) (by decide))).append (nums2 h1 h2)).append (Pc.key (x:=tSeats.tail) (by decide))).append (nums1 h3)).append (Pc.key (x:=tTo.tail) (by decide))).append (nums1 h4)).append (Pc.key (x:=tStep.tail) (by decide))).append (nums1 h5))
 have a3:Hd (rowH r) (rowHT r):=a2
 have a4:=(a3.append (Pc.flat r.marks (fun m hx=>mark_pc (List.all_eq_true.1 hm m hx)))).semi.lw 3
 have e:rowT r=rowHT r++r.marks.flatMap markT++[tkS [59]]:=(List.append_assoc _ _ _).symm
 rw[e]
 exact a4
theorem block_lws {b:Bl} (h:blockOk b=true):Lws (blockL b) (blockT b):=by
 unfold blockOk at h
 obtain ⟨hn,h⟩:=and2 h
 have a1:=(((Hd.name (x:=[98,108,111,99,107]) (by decide)).append (Pc.name hn)).append Pc.open).ln.lw 2
 exact Lws.cons a1 ((Lws.map b.rows (fun r hr=>row_lw (List.all_eq_true.1 h r hr))).append (Lws.cons (us:=[]) (Hd.close.ln.lw 2) Lws.nil))
theorem area_lw {a:Ar} (h:areaOk a=true):Lw (areaL a) (areaT a):=by
 unfold areaOk at h
 obtain ⟨hn,h⟩:=and2 h
 obtain ⟨hb,hh⟩:=and2 h
 have a1:=((((Hd.name (x:=[97,114,101,97]) (by decide)).append (Pc.name hn)).append (Pc.nums hb)).append (Pc.key (x:=tHolds.tail) (by decide))).append (nums1 hh)
 have a2:=a1.semi.lw 2
 have e:areaT a=((([tkN [97,114,101,97]]++[tkN a.name])++(boxN a.box).map tkI)++[tkN tHolds.tail]++[tkI a.holds])++[tkS [59]]:=by
  unfold areaT
  simp only[List.append_assoc]
  rfl
 rw[e]
 exact a2
theorem aisle_lw {b:Bx} (h:boxOk b=true):Lw (aisleL b) (aisleT b):=((Hd.name (x:=tAisle) (by decide)).append (Pc.nums h)).semi.lw 2
theorem pillar_lw {b:Bx} (h:boxOk b=true):Lw (pillarL b) (pillarT b):=((Hd.name (x:=tPillar) (by decide)).append (Pc.nums h)).semi.lw 2
theorem door_lw {p:Int × Int} (h:doorOk p=true):Lw (doorL p) (doorT p):=((Hd.name (x:=tDoor) (by decide)).append (Pc.nums (l:=[p.1,p.2]) h)).semi.lw 2
theorem level_lws {l:Lv} (h:levelOk l=true):Lws (levelL l) (levelT l):=by
 unfold levelOk at h
 obtain ⟨h0,h⟩:=and2 h
 obtain ⟨hn,hh⟩:=and2 h0
 obtain ⟨h1,h⟩:=and2 h
 obtain ⟨h2,h⟩:=and2 h
 obtain ⟨h3,h⟩:=and2 h
 obtain ⟨h4,h5⟩:=and2 h
 have a1:=(((((Hd.name (x:=[108,101,118,101,108]) (by decide)).append (Pc.name hn)).append (Pc.key (x:=tHeight.tail) (by decide))).append (nums1 hh)).append Pc.open).ln.lw 1
 have a2:Lws (innerL l) (innerT l):=(Lws.flat l.blocks (fun x hx=>block_lws (List.all_eq_true.1 h1 x hx))).append
  ((Lws.map l.areas (fun x hx=>area_lw (List.all_eq_true.1 h2 x hx))).append
  ((Lws.map l.aisles (fun x hx=>aisle_lw (List.all_eq_true.1 h3 x hx))).append
  ((Lws.map l.pillars (fun x hx=>pillar_lw (List.all_eq_true.1 h4 x hx))).append
  (Lws.map l.doors (fun x hx=>door_lw (List.all_eq_true.1 h5 x hx))))))
 exact Lws.cons a1 (a2.append (Lws.cons (us:=[]) (Hd.close.ln.lw 1) Lws.nil))
theorem hall_lws {h:Hl} (ho:hallOk h=true):Lws (hallL h) (hallT h):=by
 unfold hallOk at ho
 obtain ⟨h0,h1⟩:=and2 ho
 obtain ⟨hn,hs⟩:=and2 h0
 have a1:=(((((Hd.name (x:=[104,97,108,108]) (by decide)).append (Pc.name hn)).append (Pc.key (x:=tStage.tail) (by decide))).append (Pc.nums hs)).append Pc.open).ln.lw 0
 exact Lws.cons a1 ((Lws.flat h.levels (fun x hx=>level_lws (List.all_eq_true.1 h1 x hx))).append (Lws.cons (us:=[]) (Hd.close.ln.lw 0) Lws.nil))
def opT (k:Int):Tk:=tkS (opW k).tail
def valT (s:Bytes):List Tk:=tkN (cut s).1 :: (match (cut s).2 with|none=>[]|some r=>[tkS [46],tkN r])
def testT (t:Tst):List Tk:=[tkN t.attr,opT t.op]++(if t.name=[] then [tkI t.n] else valT t.name)
def joinT:List (List Tk)→List Tk
 | []=>[]
 | [x]=>x
 | x :: y :: r=>x++(tkN [97,110,100] :: joinT (y :: r))
def whensT:Bytes→List (List Tst)→List Tk
 | _,[]=>[]
 | w,l :: r=>tkN w :: (joinT (l.map testT)++whensT [111,114] r)
def kindK (k:Int):Bytes:=(kindW k).dropLast
def ratioT (r:Int × Int):List Tk:=[tkI r.1,tkS [47],tkI r.2]
def partT (w:Bytes) (r:Int × Int):List Tk:=if r=(0,1) then [] else tkN w :: ratioT r
def wordsT (x:Itm):List Tk:=[tkN (kindK x.kind),tkN x.name] ++
 (if x.kind=1 then (if x.n=0 then [] else [tkN tLimit.tail,tkI x.n])
  else if x.kind=3 then [tkI x.n]++(partT tFee.tail x.r++partT tTax.tail x.s)
  else if x.kind=4 then tkN tCap.tail :: (ratioT x.r++(tkN tShare.tail :: ratioT x.s))
  else if x.kind=5 then ratioT x.r else [])
def itemT (x:Itm):List Tk:=wordsT x++(whensT [119,104,101,110] x.whn++[tkS [59]])
theorem Hd.pc {s:Bytes} {ts:List Tk} (h:Hd s ts):Pc (32 :: s) ts:=⟨Em.blank bl.1 h.em,Bg.cons bl.2,.inr ⟨s,rfl,h.wo⟩⟩
theorem cut_none:∀ s:Bytes,(cut s).2=none→(cut s).1=s
 | [],_=>rfl
 | c :: r,h=>by
  unfold cut at h ⊢
  split at h
  · cases h
  rename_i hc
  rw[if_neg hc]
  show c :: (cut r).1=_
  rw[cut_none r h]
theorem cut_some:∀ (s t:Bytes),(cut s).2=some t→s=(cut s).1++46 :: t
 | [],t,h=>by cases h
 | c :: r,t,h=>by
  unfold cut at h ⊢
  split at h
  · rename_i hc
    cases h
    rw[if_pos hc,hc]
    rfl
  rename_i hc
  rw[if_neg hc]
  show _=c :: ((cut r).1++46 :: t)
  rw[← cut_some r t h]
theorem val_hd {s:Bytes} (h:valueOk s=true):Hd s (valT s):=by
 unfold valueOk at h
 obtain ⟨h1,h2⟩:=and2 h
 unfold valT
 cases hc:(cut s).2 with
 | none =>
  have:=cut_none s hc
  rw[this] at h1 ⊢
  exact Hd.name h1
 | some t =>
  rw[hc] at h2
  have h3:nameOk t=true:=by simpa using h2
  have he:=cut_some s t hc
  have e1:=(Em.name h1).append (Em.sym (c:=46) (by decide) (Em.name h3)) (Bg.cons (by decide))
  have w1:=(Wo.name h1).append ((show Wo [46] 3 from ⟨by decide,by decide,by decide⟩).append (Wo.name h3))
  have a1:Hd ((cut s).1++46 :: t) [tkN (cut s).1,tkS [46],tkN t]:=Hd.lone _ e1 w1
  rw[← he] at a1
  exact a1
theorem op_pc {k:Int} (h1:1≤k) (h2:k≤6):Pc (opW k) [opT k]:=by
 have h:k=1∨k=2∨k=3∨k=4∨k=5∨k=6:=by omega
 have w1:∀ c:UInt8,Lib.isSp c=false∧c≠59∧c.toNat < 128→ex c=0→Wo [c] 1:=fun c h1 h2=>⟨by simp,fun d hd=>by rw[List.mem_singleton.1 hd];exact h1,by simp[h2]⟩
 rcases h with rfl|rfl|rfl|rfl|rfl|rfl
 · exact Pc.word (x:=[61]) (Em.sym (by decide) Em.nil) (w1 _ (by decide) (by decide))
 · exact Pc.word (x:=[33,61]) (Em.op2 (by decide) Em.nil) ⟨by decide,by decide,by decide⟩
 · exact Pc.word (x:=[60]) (Em.op1 (by decide) Em.nil Bg.nil) (w1 _ (by decide) (by decide))
 · exact Pc.word (x:=[60,61]) (Em.op2 (by decide) Em.nil) ⟨by decide,by decide,by decide⟩
 · exact Pc.word (x:=[62]) (Em.op1 (by decide) Em.nil Bg.nil) (w1 _ (by decide) (by decide))
 exact Pc.word (x:=[62,61]) (Em.op2 (by decide) Em.nil) ⟨by decide,by decide,by decide⟩
theorem test_hd {t:Tst} (h:testOk t=true):Hd (testS t) (testT t):=by
 unfold testOk at h
 obtain ⟨h0,h⟩:=and2 h
 obtain ⟨h1,h2⟩:=and2 h0
 obtain ⟨ha,hv⟩:=and2 h
 have a1:=(Hd.name ha).append (op_pc (of_decide_eq_true h1) (of_decide_eq_true h2))
 unfold testS testT
 by_cases hn:t.name=[]
 · rw[if_pos hn] at hv ⊢
   rw[if_pos hn]
   exact a1.append (nums1 hv)
 rw[if_neg hn] at hv ⊢
 rw[if_neg hn]
 exact a1.append (val_hd (and2 hv).2).pc
theorem join_hd:∀ (l:List Tst),l≠[]→(∀ t ∈ l,testOk t=true)→Hd (join tAnd (l.map testS)) (joinT (l.map testT))
 | [],h,_=>absurd rfl h
 | [t],_,h=>test_hd (h t (by simp))
 | t :: u :: r,_,h=>by
  have ih:=join_hd (u :: r) (by simp) (fun x hx=>h x (by simp at hx ⊢;exact .inr hx))
  have a1:=(test_hd (h t (by simp))).append ((Pc.key (x:=[97,110,100]) (by decide)).append ih.pc)
  have e:join tAnd ((t :: u :: r).map testS)=testS t++(32 :: [97,110,100]++32 :: join tAnd ((u :: r).map testS)):=by
   show testS t++tAnd++join tAnd ((u :: r).map testS)=_
   rw[List.append_assoc]
   rfl
  rw[e]
  exact a1
theorem whens_pc:∀ (w:Bytes) (l:List (List Tst)),nameOk w=true→(∀ x ∈ l,listOk x=true)→Pc (whensS (32 :: w++[32]) l) (whensT w l)
 | w,[],_,_=>Pc.nil
 | w,x :: l,hw,h=>by
  have hx:=h x (by simp)
  unfold listOk at hx
  obtain ⟨h1,hx⟩:=and2 hx
  obtain ⟨h2,hx⟩:=and2 hx
  have a1:=(join_hd x (by rintro rfl;simp at h1) (List.all_eq_true.1 hx)).pc
  have a2:=whens_pc [111,114] l (by decide) (fun y hy=>h y (by simp[hy]))
  have a3:=(Pc.key hw).append (a1.append a2)
  have e:whensS (32 :: w++[32]) (x :: l)=32 :: w++(32 :: join tAnd (x.map testS)++whensS (32 :: [111,114]++[32]) l):=by
   show 32 :: w++[32]++join tAnd (x.map testS)++whensS tOr l=_
   simp only[List.append_assoc,List.cons_append,List.nil_append]
   rfl
  rw[e]
  exact a3
theorem ratio_pc {r:Int × Int} (h:ratioOk r=true):Pc (ratioS r) (ratioT r):=by
 unfold ratioOk at h
 simp only[numsOk,List.all_cons,List.all_nil,Bool.and_true,Bool.and_eq_true] at h
 have e1:=(Em.num h.1).append (Em.sym (c:=47) (by decide) (Em.num h.2)) (Bg.cons (by decide))
 have w1:=(Wo.num h.1).append ((show Wo [47] 3 from ⟨by decide,by decide,by decide⟩).append (Wo.num h.2))
 have a1:=Pc.word e1 w1
 have e:ratioS r=32 :: (Lib.itoa r.1++47 :: Lib.itoa r.2):=by simp[ratioS,nums]
 rw[e]
 exact a1
theorem part_pc {w:Bytes} (hw:nameOk w=true) {r:Int × Int} (h:partOk r=true):Pc (partS (32 :: w) r) (partT w r):=by
 unfold partS partT
 by_cases hr:r=(0,1)
 · rw[if_pos hr,if_pos hr];exact Pc.nil
 rw[if_neg hr,if_neg hr]
 unfold partOk at h
 rw[decide_eq_false hr,Bool.false_or] at h
 exact (Pc.key hw).append (ratio_pc h)
theorem kind_eq {k:Int} (h1:1≤k) (h2:k≤7):kindW k=kindK k++[32]∧nameOk (kindK k)=true:=by
 have h:k=1∨k=2∨k=3∨k=4∨k=5∨k=6∨k=7:=by omega
 rcases h with rfl|rfl|rfl|rfl|rfl|rfl|rfl <;> decide
theorem Hd.eq {s s':Bytes} {ts ts':List Tk} (h:Hd s ts) (e:s=s') (e':ts=ts'):Hd s' ts':=e ▸ e' ▸ h
theorem words_hd {x:Itm} (h1:1≤x.kind) (h2:x.kind≤7) (h:wordsOk x=true):Hd (wordsS x) (wordsT x):=by
 unfold wordsOk at h
 obtain ⟨hn,h⟩:=and2 h
 obtain ⟨e1,hk⟩:=kind_eq h1 h2
 have a1:=(Hd.name hk).append (Pc.name hn)
 have e2:kindW x.kind++x.name=kindK x.kind++32 :: x.name:=by rw[e1];simp
 unfold wordsS wordsT
 rw[e2]
 by_cases c1:x.kind=1
 · rw[if_pos c1] at h
   simp only[if_pos c1]
   by_cases c0:x.n=0
   · rw[if_pos c0,if_pos c0]
     exact a1.append Pc.nil
   rw[if_neg c0,if_neg c0]
   exact a1.append ((Pc.key (x:=tLimit.tail) (by decide)).append (nums1 (and2 h).1))
 rw[if_neg c1] at h
 simp only[if_neg c1]
 by_cases c3:x.kind=3
 · rw[if_pos c3] at h
   simp only[if_pos c3]
   obtain ⟨g1,h⟩:=and2 h
   obtain ⟨g2,g3⟩:=and2 h
   have a2:=(nums1 g1).append ((part_pc (w:=tFee.tail) (by decide) g2).append (part_pc (w:=tTax.tail) (by decide) g3))
   exact (a1.append a2).eq (by rw[← List.append_assoc (nums [x.n])];rfl) rfl
 rw[if_neg c3] at h
 simp only[if_neg c3]
 by_cases c4:x.kind=4
 · rw[if_pos c4] at h
   simp only[if_pos c4]
   obtain ⟨_,h⟩:=and2 h
   obtain ⟨g2,g3⟩:=and2 h
   have a2:=(Pc.key (x:=tCap.tail) (by decide)).append ((ratio_pc g2).append ((Pc.key (x:=tShare.tail) (by decide)).append (ratio_pc g3)))
   exact (a1.append a2).eq (by simp only[List.append_assoc];rfl) rfl
 rw[if_neg c4] at h
 simp only[if_neg c4]
 by_cases c5:x.kind=5
 · rw[if_pos c5] at h
   simp only[if_pos c5]
   exact a1.append (ratio_pc (and2 (and2 h).2).1)
 simp only[if_neg c5]
 exact a1.append Pc.nil
theorem item_lw {x:Itm} (h:itemOk x=true):Lw (itemL x) (itemT x):=by
 unfold itemOk at h
 obtain ⟨h0,h⟩:=and2 h
 obtain ⟨h1,h0⟩:=and2 h0
 obtain ⟨h2,h3⟩:=and2 h0
 obtain ⟨hw,hl⟩:=and2 h
 have a1:=((words_hd (of_decide_eq_true h1) (of_decide_eq_true h2) hw).append (whens_pc [119,104,101,110] x.whn (by decide) (List.all_eq_true.1 hl))).semi.lw 0
 have e:itemT x=wordsT x++whensT [119,104,101,110] x.whn++[tkS [59]]:=(List.append_assoc _ _ _).symm
 rw[e]
 exact a1
theorem rules_lws {l:List Itm} (h:∀ x ∈ l,itemOk x=true):Lws (l.map itemL) (l.flatMap itemT):=Lws.map l (fun x hx=>item_lw (h x hx))
theorem Lws.lex {l:List (Nat × Bytes)} {ts:List Tk} (h:Lws l ts):T (full l)=ts.length∧∃ us:List Tk,sc 0 (full l)=us.map (fun t=>(t,0))∧us.map rz=ts:=by
 obtain ⟨us,h1,h2⟩:=h.1 0 []
 rw[List.append_nil,Lx.sc_nil,List.append_nil] at h1
 have h3:=h.2.1 []
 rw[List.append_nil,T_nil,Nat.add_zero] at h3
 exact ⟨h3,us,h1,h2⟩
theorem fin_many:∀ (l:List (Tk × Nat)) (k:Nat) (out:List Tk),k≤5000→(∀ x ∈ l,x.2=0)→5000 < k+l.length→(Lx.fin k out l).2.1=3
 | [],k,out,hk,_,h=>by simp at h;omega
 | (t,e) :: r,k,out,hk,hx,h=>by
  have he:e=0:=hx (t,e) (by simp)
  subst he
  unfold Lx.fin
  rw[if_neg (by simp)]
  by_cases h5:k=5000
  · rw[if_pos h5]
  rw[if_neg h5]
  exact fin_many r (k+1) _ (by omega) (fun x hx'=>hx x (by simp[hx'])) (by simp at h;omega)
theorem fin_few:∀ (l:List (Tk × Nat)) (k:Nat) (out:List Tk),(∀ x ∈ l,x.2=0)→k+l.length≤5000→Lx.fin k out l=(out++l.map Prod.fst,0,0)
 | [],k,out,_,_=>by simp[Lx.fin]
 | (t,e) :: r,k,out,hx,h=>by
  have he:e=0:=hx (t,e) (by simp)
  subst he
  unfold Lx.fin
  simp at h
  rw[if_neg (by simp),if_neg (by omega),fin_few r (k+1) _ (fun x hx'=>hx x (by simp[hx'])) (by omega)]
  simp
theorem Lws.fin {l:List (Nat × Bytes)} {ts:List Tk} (h:Lws l ts):Pr.fin true (puts [] l)=if (Lx.lex (full l)).2.1=0 then (full l,0) else ([],3):=by
 obtain ⟨h1,us,h2,h3⟩:=h.lex
 have hl:us.length=ts.length:=by rw[← h3,List.length_map]
 rw[fin_full,if_neg (by decide)]
 have ht:tokens (full l)=ts.length:=h1
 rw[ht]
 unfold Lx.lex
 by_cases c1:20000 < (full l).length
 · rw[if_pos (.inl c1),if_pos c1,if_neg (by decide)]
 rw[if_neg c1]
 have h2':Lx.scan (full l).length 0 (full l)=us.map (fun t=>(t,0)):=h2
 rw[h2']
 by_cases c2:5000 < ts.length
 · rw[if_pos (.inr c2),fin_many _ 0 [] (by decide) (fun x hx=>by obtain ⟨t,_,rfl⟩:=List.mem_map.1 hx;rfl) (by simp;omega),if_neg (by decide)]
 rw[if_neg (fun c=>c.elim c1 c2),fin_few _ 0 [] (fun x hx=>by obtain ⟨t,_,rfl⟩:=List.mem_map.1 hx;rfl) (by simp;omega)]
 rfl
end Pr
end Go.Proofs.YtglepipfdmphhaaGreatDoor
