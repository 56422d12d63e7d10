/-
 Layer 15: plain laws of the lexer: how a scan goes on, over joined and cut texts.
-/
import Derived.Test.YtglepipfdmphhaaGreatDoorLxA
namespace Go.Proofs.YtglepipfdmphhaaGreatDoor
set_option linter.unusedVariables false
set_option linter.unusedSimpArgs false
namespace Lx
def sc (o:Nat) (s:Bytes):List (Tk × Nat):=scan s.length o s
theorem sc_nil (o:Nat):sc o []=[]:=rfl
theorem line_pos' {c:UInt8} {r:Bytes} (h:cls c=2):0 < wl line (c :: r):=wl_pos (by
 unfold line
 rw[decide_eq_true_iff]
 intro e
 rw[e] at h
 revert h
 decide)
theorem sc_blank {o:Nat} {c:UInt8} {r:Bytes} (h:cls c=1):sc o (c :: r)=sc (o+1) r:=by
 unfold sc
 rw[List.length_cons,scan,if_pos h]
theorem sc_hash {o:Nat} {c:UInt8} {r:Bytes} (h:cls c=2):sc o (c :: r)=sc (o+wl line (c :: r)) ((c :: r).drop (wl line (c :: r))):=by
 have hp:=line_pos' (r:=r) h
 unfold sc
 rw[List.length_cons,scan,if_neg (by omega),if_pos h]
 exact scan_fuel _ _ _ _ (by rw[List.length_drop];simp;omega) (Nat.le_refl _)
theorem sc_err {o:Nat} {c:UInt8} {r:Bytes} (h1:cls c≠1) (h2:cls c≠2) (h:(tok (c :: r)).2.2≠0):sc o (c :: r)=[(mk o (c :: r),(tok (c :: r)).2.2)]:=by
 unfold sc
 rw[List.length_cons,scan,if_neg h1,if_neg h2,if_pos h]
theorem sc_tok {o:Nat} {c:UInt8} {r:Bytes} (h1:cls c≠1) (h2:cls c≠2) (h:(tok (c :: r)).2.2=0):sc o (c :: r)=(mk o (c :: r),0) :: sc (o+(tok (c :: r)).2.1) ((c :: r).drop (tok (c :: r)).2.1):=by
 have hp:=(tok_pos h).1
 unfold sc
 rw[List.length_cons,scan,if_neg h1,if_neg h2,if_neg (by simpa using h)]
 rw[scan_fuel r.length _ _ _ (by rw[List.length_drop];simp;omega) (Nat.le_refl _)]
theorem sc_ind {P:Nat→Bytes→Prop} (h0:∀ o,P o [])
 (h1:∀ o c r,cls c=1→P (o+1) r→P o (c :: r))
 (h2:∀ o c r,cls c=2→P (o+wl line (c :: r)) ((c :: r).drop (wl line (c :: r)))→P o (c :: r))
 (h3:∀ o c r,cls c≠1→cls c≠2→(tok (c :: r)).2.2≠0→P o (c :: r))
 (h4:∀ o c r,cls c≠1→cls c≠2→(tok (c :: r)).2.2=0→P (o+(tok (c :: r)).2.1) ((c :: r).drop (tok (c :: r)).2.1)→P o (c :: r)):∀ o s,P o s:=by
 have key:∀ n o (s:Bytes),s.length≤n→P o s:=by
  intro n
  induction n with
  | zero =>
   intro o s h
   have:s=[]:=List.eq_nil_of_length_eq_zero (by omega)
   subst this
   exact h0 o
  | succ n ih =>
   intro o s h
   cases s with
   | nil=>exact h0 o
   | cons c r =>
    simp only[List.length_cons] at h
    by_cases e1:cls c=1
    · exact h1 o c r e1 (ih _ _ (by omega))
    by_cases e2:cls c=2
    · have:=line_pos' (r:=r) e2
      exact h2 o c r e2 (ih _ _ (by rw[List.length_drop];simp;omega))
    by_cases e3:(tok (c :: r)).2.2=0
    · have:=(tok_pos e3).1
      exact h4 o c r e1 e2 e3 (ih _ _ (by rw[List.length_drop];simp;omega))
    exact h3 o c r e1 e2 e3
 exact fun o s=>key s.length o s (Nat.le_refl _)
theorem wl_stop {p:UInt8→Bool} {d:UInt8} (hd:p d=false) (r:Bytes):∀ s:Bytes,wl p (s++d :: r)=wl p s
 | []=>by simp[wl,hd]
 | c :: s=>by
  rw[List.cons_append,wl,wl,wl_stop hd r s]
theorem wl_taken (p:UInt8→Bool):∀ (s:Bytes) (n:Nat),wl p (s.take n)=min (wl p s) n
 | [],n=>by simp[wl]
 | c :: s,0=>by simp[wl]
 | c :: s,n+1=>by
  rw[List.take_succ_cons,wl,wl,wl_taken p s n]
  split <;> omega
theorem wl_drop_stop (p:UInt8→Bool):∀ (s:Bytes) (d:UInt8) (r:Bytes),s.drop (wl p s)=d :: r→p d=false
 | [],d,r,h=>by simp at h
 | c :: s,d,r,h=>by
  rw[wl] at h
  split at h
  · exact wl_drop_stop p s d r h
  rename_i hc
  simp only[List.drop_zero,List.cons.injEq] at h
  rw[← h.1]
  simpa using hc
theorem tok_len (c:UInt8) (r:Bytes):(tok (c :: r)).2.1≤r.length+1:=by
 have h1:=wl_le word (c :: r)
 have h2:=wl_le dig (c :: r)
 simp only[List.length_cons] at h1 h2
 rw[tok_cons]
 split
 · exact h1
 split
 · exact h2
 split
 · split
   · rename_i h
     cases r with
     | nil=>simp at h
     | cons d r=>simp
   simp
 simp
theorem tok_nl (c:UInt8) (s r:Bytes):tok (c :: s++10 :: r)=tok (c :: s):=by
 have hw:word 10=false:=by decide
 have hd:dig 10=false:=by decide
 have h1:=wl_stop hw r (c :: s)
 have h2:=wl_stop hd r (c :: s)
 rw[List.cons_append] at h1 h2 ⊢
 rw[tok_cons,tok_cons,h1,h2]
 have h3:(c :: (s++10 :: r)).drop (wl dig (c :: s))=(c :: s).drop (wl dig (c :: s))++10 :: r:=by
  rw[← List.cons_append,List.drop_append_of_le_length (wl_le _ _)]
 have h4:sticks ((c :: (s++10 :: r)).drop (wl dig (c :: s)))=sticks ((c :: s).drop (wl dig (c :: s))):=by
  rw[h3]
  cases (c :: s).drop (wl dig (c :: s)) with
  | nil=>show decide (cls 10=3∨cls 10=5)=false;decide
  | cons d q=>rfl
 have h5:((s++10 :: r).head? = some 61)=(s.head? = some 61):=by
  cases s with
  | nil=>simp
  | cons d q=>rfl
 rw[h4]
 simp only[h5]
theorem mk_nl (o:Nat) (c:UInt8) (s r:Bytes):mk o (c :: s++10 :: r)=mk o (c :: s):=by
 unfold mk
 rw[tok_nl,List.take_append_of_le_length (tok_len c s)]
def good (l:List (Tk × Nat)):Bool:=l.all fun x=>x.2 == 0
theorem good_iff {l:List (Tk × Nat)}:good l=true↔∀ x ∈ l,x.2=0:=by simp[good]
theorem sc_join (r:Bytes):∀ (o:Nat) (s:Bytes),sc o (s++10 :: r)=sc o s++(if good (sc o s)=true then sc (o+s.length+1) r else []):=by
 have hl:line 10=false:=by decide
 refine sc_ind ?_ ?_ ?_ ?_ ?_
 · intro o
   rw[List.nil_append,sc_nil,sc_blank (by decide),if_pos (by rfl)]
   rfl
 · intro o c s h ih
   rw[List.cons_append,sc_blank h,sc_blank h,ih,List.length_cons,show o+1+s.length+1=o+(s.length+1)+1 by omega]
 · intro o c s h ih
   have h1:=wl_stop hl r (c :: s)
   have h2:=wl_le line (c :: s)
   simp only[List.length_cons] at h2
   rw[List.cons_append] at h1 ⊢
   rw[sc_hash h,sc_hash h,h1,← List.cons_append,List.drop_append_of_le_length h2,ih,List.length_drop,List.length_cons,
    show o+wl line (c :: s)+(s.length+1 - wl line (c :: s))+1=o+(s.length+1)+1 by omega]
 · intro o c s h1 h2 h3
   have h4:=tok_nl c s r
   rw[List.cons_append] at h4 ⊢
   rw[sc_err h1 h2 h3,sc_err h1 h2 (by rw[h4];exact h3),h4,← List.cons_append,mk_nl,if_neg]
   · simp
   simp[good,h3]
 intro o c s h1 h2 h3 ih
 have h4:=tok_nl c s r
 have h5:=tok_len c s
 rw[List.cons_append] at h4 ⊢
 rw[sc_tok h1 h2 h3,sc_tok h1 h2 (by rw[h4];exact h3),h4,← List.cons_append,mk_nl,List.drop_append_of_le_length (by simpa using h5),ih,List.length_drop,List.length_cons,
  show o+(tok (c :: s)).2.1+(s.length+1 - (tok (c :: s)).2.1)+1=o+(s.length+1)+1 by omega]
 simp[good,List.all_cons]
 rfl
theorem sc_last:∀ (o:Nat) (s:Bytes),good (sc o s)=true∨∃ p t e,sc o s=p++[(t,e)]∧e≠0∧good p=true:=by
 refine sc_ind ?_ ?_ ?_ ?_ ?_
 · exact fun o=>.inl rfl
 · intro o c s h ih
   rw[sc_blank h];exact ih
 · intro o c s h ih
   rw[sc_hash h];exact ih
 · intro o c s h1 h2 h3
   rw[sc_err h1 h2 h3]
   exact .inr ⟨[],_,_,rfl,h3,rfl⟩
 intro o c s h1 h2 h3 ih
 rw[sc_tok h1 h2 h3]
 rcases ih with ih|⟨p,t,e,h4,h5,h6⟩
 · exact .inl (by simpa [good] using ih)
 refine .inr ⟨(mk o (c :: s),0) :: p,t,e,by rw[h4];rfl,h5,by simpa [good] using h6⟩
theorem sc_length:∀ (o:Nat) (s:Bytes),(sc o s).length≤s.length:=by
 refine sc_ind ?_ ?_ ?_ ?_ ?_
 · exact fun o=>Nat.le_refl _
 · intro o c s h ih
   rw[sc_blank h,List.length_cons];omega
 · intro o c s h ih
   rw[sc_hash h]
   rw[List.length_drop] at ih
   omega
 · intro o c s h1 h2 h3
   rw[sc_err h1 h2 h3]
   simp
 intro o c s h1 h2 h3 ih
 have:=tok_pos h3
 rw[sc_tok h1 h2 h3]
 rw[List.length_drop] at ih
 simp only[List.length_cons] at *
 omega
def shift (d:Nat) (x:Tk × Nat):Tk × Nat:=({ x.1 with at_:=x.1.at_+d },x.2)
theorem mk_shift (o d:Nat) (s:Bytes):mk (o+d) s = { mk o s with at_:=(mk o s).at_+d }:=rfl
theorem sc_shift (d:Nat):∀ (o:Nat) (s:Bytes),sc (o+d) s=(sc o s).map (shift d):=by
 refine sc_ind ?_ ?_ ?_ ?_ ?_
 · exact fun o=>rfl
 · intro o c s h ih
   rw[sc_blank h,sc_blank h,← ih,show o+d+1=o+1+d by omega]
 · intro o c s h ih
   rw[sc_hash h,sc_hash h,← ih,show o+d+wl line (c :: s)=o+wl line (c :: s)+d by omega]
 · intro o c s h1 h2 h3
   rw[sc_err h1 h2 h3,sc_err h1 h2 h3]
   rfl
 intro o c s h1 h2 h3 ih
 rw[sc_tok h1 h2 h3,sc_tok h1 h2 h3,List.map_cons,← ih,show o+d+(tok (c :: s)).2.1=o+(tok (c :: s)).2.1+d by omega]
 rfl
theorem good_shift (d:Nat) (l:List (Tk × Nat)):good (l.map (shift d))=good l:=by
 unfold good
 rw[List.all_map]
 rfl
theorem fin_good:∀ (l:List (Tk × Nat)) (k:Nat) (out:List Tk),good l=true→k+l.length≤5000→fin k out l=(out++l.map Prod.fst,0,0)
 | [],k,out,_,_=>by simp[fin]
 | (t,e) :: r,k,out,h,hk=>by
  have he:e=0:=(good_iff.1 h) (t,e) (by simp)
  simp only[List.length_cons] at hk
  unfold fin
  rw[if_neg (by simpa using he),if_neg (by omega),fin_good r (k+1) _ (good_iff.2 fun x hx=>(good_iff.1 h) x (by simp[hx])) (by omega)]
  simp
theorem fin_bad:∀ (p:List (Tk × Nat)) (t:Tk) (e:Nat) (k:Nat) (out:List Tk),good p=true→e≠0→k+p.length≤5000→fin k out (p++[(t,e)])=(([]:List Tk),e,(t.at_:Int))
 | [],t,e,k,out,_,he,_=>by simp[fin,he]
 | (t',e') :: r,t,e,k,out,h,he,hk=>by
  have he':e'=0:=(good_iff.1 h) (t',e') (by simp)
  simp only[List.length_cons] at hk
  rw[List.cons_append,fin,if_neg (by simpa using he'),if_neg (by omega),fin_bad r t e (k+1) _ (good_iff.2 fun x hx=>(good_iff.1 h) x (by simp[hx])) he (by omega)]
theorem lex_good {s:Bytes} (hs:s.length≤5000) (h:good (sc 0 s)=true):lex s=((sc 0 s).map Prod.fst,0,0):=by
 have:=sc_length 0 s
 unfold lex
 rw[if_neg (by omega),show scan s.length 0 s=sc 0 s from rfl,fin_good _ _ _ h (by omega)]
 rfl
theorem lex_bad {s:Bytes} (hs:s.length≤5000) {p:List (Tk × Nat)} {t:Tk} {e:Nat} (h:sc 0 s=p++[(t,e)]) (he:e≠0) (hp:good p=true):lex s=(([]:List Tk),e,(t.at_:Int)):=by
 have h1:=sc_length 0 s
 rw[h] at h1
 simp only[List.length_append,List.length_cons,List.length_nil] at h1
 unfold lex
 rw[if_neg (by omega),show scan s.length 0 s=sc 0 s from rfl,h,fin_bad _ _ _ _ _ hp he (by omega)]
theorem lex_zero {s:Bytes} (hs:s.length≤5000):(lex s).2.1=0↔good (sc 0 s)=true:=by
 constructor
 · intro h
   rcases sc_last 0 s with h1|⟨p,t,e,h1,h2,h3⟩
   · exact h1
   rw[lex_bad hs h1 h2 h3] at h
   exact absurd h h2
 intro h
 rw[lex_good hs h]
theorem tok_cut {c:UInt8} {r:Bytes} {i:Nat} (h:(tok (c :: r)).2.2=0) (hi:(tok (c :: r)).2.1≤i) (h1:cls c≠1) (h2:cls c≠2):tok ((c :: r).take i)=tok (c :: r):=by
 have hp:=(tok_pos h).1
 obtain ⟨i,rfl⟩:∃ j,i=j+1:=⟨i - 1,by omega⟩
 have w1:=wl_taken word (c :: r) (i+1)
 have w2:=wl_taken dig (c :: r) (i+1)
 rw[List.take_succ_cons] at w1 w2 ⊢
 rw[tok_cons] at h hi ⊢
 rw[tok_cons]
 by_cases e3:cls c=3
 · rw[if_pos e3] at h hi ⊢
   rw[if_pos e3,w1,Nat.min_eq_left hi]
 rw[if_neg e3] at h hi ⊢
 rw[if_neg e3]
 by_cases e4:cls c=4
 · rw[if_pos e4] at h hi ⊢
   rw[if_pos e4,w2,Nat.min_eq_left hi]
   have hst:sticks ((c :: r.take i).drop (wl dig (c :: r)))=false:=by
    have h9:sticks ((c :: r).drop (wl dig (c :: r)))=false:=by
     cases h8:sticks ((c :: r).drop (wl dig (c :: r))) with
     | false=>rfl
     | true =>
      rw[h8] at h
      simp at h
    rw[← List.take_succ_cons,List.drop_take]
    cases h8:(c :: r).drop (wl dig (c :: r)) with
    | nil=>simp[sticks]
    | cons d q =>
     rw[h8] at h9
     cases i+1 - wl dig (c :: r) with
     | zero=>rfl
     | succ n=>exact h9
   have h9:sticks ((c :: r).drop (wl dig (c :: r)))=false:=by
    cases h8:sticks ((c :: r).drop (wl dig (c :: r))) with
    | false=>rfl
    | true =>
     rw[h8] at h
     simp at h
   rw[hst,h9]
 rw[if_neg e4] at h hi ⊢
 rw[if_neg e4]
 by_cases e6:cls c=6∨cls c=7∨cls c=8
 · rw[if_pos e6] at h hi ⊢
   rw[if_pos e6]
   by_cases e61:cls c≠6∧r.head? = some 61
   · rw[if_pos e61] at hi ⊢
     rw[if_pos]
     refine ⟨e61.1,?_⟩
     obtain ⟨j,rfl⟩:∃ j,i=j+1:=⟨i - 1,by simp at hi;omega⟩
     cases r with
     | nil=>simp at e61
     | cons d q=>exact e61.2
   rw[if_neg e61] at h ⊢
   rw[if_neg]
   rintro ⟨h7,h8⟩
   refine e61 ⟨h7,?_⟩
   cases r with
   | nil=>simp at h8
   | cons d q =>
    cases i with
    | zero=>simp at h8
    | succ j=>exact h8
 rw[if_neg e6] at h
 simp at h
theorem sc_begin:∀ (o:Nat) (s:Bytes) (p:List (Tk × Nat)) (t:Tk) (e:Nat),sc o s=p++[(t,e)]→e≠0→good p=true →
 ∃ i,t.at_=o+i∧i < s.length∧sc o (s.take i)=p∧∃ t',sc 0 (s.drop i)=[(t',e)]∧t'.at_=0:=by
 refine sc_ind ?_ ?_ ?_ ?_ ?_
 · intro o p t e h
   rw[sc_nil] at h
   simp at h
 · intro o c s h ih p t e h1 h2 h3
   rw[sc_blank h] at h1
   obtain ⟨i,a1,a2,a3,a4⟩:=ih p t e h1 h2 h3
   exact ⟨i+1,by omega,by simp;omega,by rw[List.take_succ_cons,sc_blank h];exact a3,a4⟩
 · intro o c s h ih p t e h1 h2 h3
   have hw:=wl_le line (c :: s)
   rw[sc_hash h] at h1
   obtain ⟨i,a1,a2,a3,a4⟩:=ih p t e h1 h2 h3
   have hp:=line_pos' (r:=s) h
   rw[List.length_drop] at a2
   refine ⟨wl line (c :: s)+i,by omega,by omega,?_,?_⟩
   · have h5:=wl_taken line (c :: s) (wl line (c :: s)+i)
     rw[Nat.min_eq_left (by omega)] at h5
     obtain ⟨j,hj⟩:∃ j,wl line (c :: s)+i=j+1:=⟨wl line (c :: s)+i - 1,by omega⟩
     have h6:(c :: s).take (j+1)=c :: s.take j:=List.take_succ_cons
     rw[hj,h6] at h5
     rw[hj,h6,sc_hash h,h5,← h6,← hj,List.drop_take,show wl line (c :: s)+i - wl line (c :: s)=i by omega]
     exact a3
   rw[List.drop_drop] at a4
   exact a4
 · intro o c s h1 h2 h3 p t e h4 h5 h6
   rw[sc_err h1 h2 h3] at h4
   have hp:p=[]:=by
    have:=congrArg List.length h4
    simp at this
    exact this
   subst hp
   simp only[List.nil_append,List.cons.injEq,and_true,Prod.mk.injEq] at h4
   refine ⟨0,by rw[← h4.1];rfl,by simp,rfl,mk 0 (c :: s),?_,rfl⟩
   rw[List.drop_zero,sc_err h1 h2 h3,h4.2]
 intro o c s h1 h2 h3 ih p t e h4 h5 h6
 have hl:=tok_pos h3
 rw[sc_tok h1 h2 h3] at h4
 cases p with
 | nil =>
  simp only[List.nil_append,List.cons.injEq,Prod.mk.injEq] at h4
  exact absurd h4.1.2.symm h5
 | cons x p =>
  rw[List.cons_append,List.cons.injEq] at h4
  obtain ⟨i,a1,a2,a3,a4⟩:=ih p t e h4.2 h5 (good_iff.2 fun y hy=>(good_iff.1 h6) y (by simp[hy]))
  rw[List.length_drop] at a2
  refine ⟨(tok (c :: s)).2.1+i,by omega,by omega,?_,?_⟩
  · have h7:=tok_cut (i:=(tok (c :: s)).2.1+i) h3 (by omega) h1 h2
    obtain ⟨j,hj⟩:∃ j,(tok (c :: s)).2.1+i=j+1:=⟨(tok (c :: s)).2.1+i - 1,by omega⟩
    have h8:(c :: s).take (j+1)=c :: s.take j:=List.take_succ_cons
    rw[hj,h8] at h7
    have h9:mk o (c :: s.take j)=mk o (c :: s):=by
     unfold mk
     rw[h7,← h8,List.take_take,← hj,Nat.min_eq_left (by omega)]
    rw[hj,h8,sc_tok h1 h2 (by rw[h7];exact h3),h7,h9,← h8,← hj,List.drop_take,show (tok (c :: s)).2.1+i - (tok (c :: s)).2.1=i by omega,a3,h4.1]
  rw[List.drop_drop] at a4
  exact a4
end Lx
end Go.Proofs.YtglepipfdmphhaaGreatDoor
