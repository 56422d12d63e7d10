/-
 Layer 5: the lexer as a plain function on lists of bytes.
-/
import Derived.Test.YtglepipfdmphhaaGreatDoorHeap
namespace Go.Proofs.YtglepipfdmphhaaGreatDoor
set_option linter.unusedVariables false
set_option linter.unusedSimpArgs false
open Go Go.RowKit
abbrev Bytes:=List UInt8
namespace Lx
def cls (c:UInt8):Nat :=
 if (97≤c.toNat∧c.toNat≤122)∨(65≤c.toNat∧c.toNat≤90) then 3
 else if 48≤c.toNat∧c.toNat≤57 then 4
 else if c.toNat=32∨c.toNat=9∨c.toNat=10 then 1
 else if c.toNat ∈ [59,44,46,58,40,41,123,125,61,43,45,47] then 6
 else if c.toNat=60∨c.toNat=62 then 7
 else if c.toNat=35 then 2
 else if c.toNat=95 then 5
 else if c.toNat=33 then 8
 else 0
def word (c:UInt8):Bool:=decide (cls c=3∨cls c=4∨cls c=5)
def dig (c:UInt8):Bool:=decide (cls c=4)
def line (c:UInt8):Bool:=decide (c≠10)
def wl (p:UInt8→Bool):Bytes→Nat
 | []=>0
 | c :: r=>if p c then wl p r+1 else 0
theorem wl_le (p:UInt8→Bool):∀ s:Bytes,wl p s≤s.length
 | []=>by simp[wl]
 | c :: r=>by
  have:=wl_le p r
  unfold wl
  split <;> simp <;> omega
def num (s:Bytes):Nat:=s.foldl (fun a c=>10*a+(c.toNat - 48)) 0
def sticks:Bytes→Bool
 | []=>false
 | d :: _=>decide (cls d=3∨cls d=5)
def tok:Bytes→Nat × Nat × Nat
 | []=>(0,0,5)
 | c :: r =>
  if cls c=3 then (1,wl word (c :: r),if 24 < wl word (c :: r) then 3 else 0)
  else if cls c=4 then (2,wl dig (c :: r),if 10 < wl dig (c :: r)∨sticks ((c :: r).drop (wl dig (c :: r)))=true then 6 else 0)
  else if cls c=6∨cls c=7∨cls c=8 then
   if cls c≠6∧r.head? = some 61 then (3,2,0) else (3,1,if cls c=8 then 5 else 0)
  else (0,0,5)
theorem tok_cons (c:UInt8) (r:Bytes):tok (c :: r) =
 if cls c=3 then (1,wl word (c :: r),if 24 < wl word (c :: r) then 3 else 0)
 else if cls c=4 then (2,wl dig (c :: r),if 10 < wl dig (c :: r)∨sticks ((c :: r).drop (wl dig (c :: r)))=true then 6 else 0)
 else if cls c=6∨cls c=7∨cls c=8 then
  if cls c≠6∧r.head? = some 61 then (3,2,0) else (3,1,if cls c=8 then 5 else 0)
 else (0,0,5):=rfl
structure Tk where
 kind:Nat
 text:Bytes
 n:Nat
 at_:Nat
deriving DecidableEq
def mk (o:Nat) (s:Bytes):Tk:=⟨(tok s).1,s.take (tok s).2.1,if (tok s).1=2∧(tok s).2.2=0 then num (s.take (tok s).2.1) else 0,o⟩
def scan:Nat→Nat→Bytes→List (Tk × Nat)
 | 0,_,_=>[]
 | _+1,_,[]=>[]
 | f+1,o,c :: r =>
  if cls c=1 then scan f (o+1) r
  else if cls c=2 then scan f (o+wl line (c :: r)) ((c :: r).drop (wl line (c :: r)))
  else if (tok (c :: r)).2.2≠0 then [(mk o (c :: r),(tok (c :: r)).2.2)]
  else (mk o (c :: r),0) :: scan f (o+(tok (c :: r)).2.1) ((c :: r).drop (tok (c :: r)).2.1)
def fin:Nat→List Tk→List (Tk × Nat)→List Tk × Nat × Int
 | _,out,[]=>(out,0,0)
 | k,out,(t,e) :: r=>if e≠0 then ([],e,t.at_) else if k=5000 then ([],3,t.at_) else fin (k+1) (out++[t]) r
def lex (s:Bytes):List Tk × Nat × Int:=if 20000 < s.length then ([],3,-1) else fin 0 [] (scan s.length 0 s)
theorem wl_pos {p:UInt8→Bool} {c:UInt8} {r:Bytes} (h:p c=true):0 < wl p (c :: r):=by
 unfold wl
 rw[if_pos h]
 omega
theorem tok_pos {c:UInt8} {r:Bytes} (he:(tok (c :: r)).2.2=0):0 < (tok (c :: r)).2.1∧(tok (c :: r)).2.1≤(c :: r).length:=by
 have h1:=wl_le word (c :: r)
 have h2:=wl_le dig (c :: r)
 rw[tok_cons] at he ⊢
 split at he
 · rename_i h
   rw[if_pos h]
   exact ⟨wl_pos (by unfold word;simp[h]),h1⟩
 rename_i h
 rw[if_neg h]
 split at he
 · rename_i h'
   rw[if_pos h']
   exact ⟨wl_pos (by unfold dig;simp[h']),h2⟩
 rename_i h'
 rw[if_neg h']
 split at he
 · rename_i h3
   rw[if_pos h3]
   split
   · rename_i h4
     refine ⟨by decide,?_⟩
     cases r with
     | nil=>simp at h4
     | cons d r=>simp
   exact ⟨Nat.zero_lt_one,by simp⟩
 simp at he
theorem scan_fuel:∀ (f g o:Nat) (s:Bytes),s.length≤f→s.length≤g→scan f o s=scan g o s
 | 0,g,o,s,h,_=>by
  have:s=[]:=List.eq_nil_of_length_eq_zero (by omega)
  subst this
  cases g <;> rfl
 | f+1,0,o,s,_,h=>by
  have:s=[]:=List.eq_nil_of_length_eq_zero (by omega)
  subst this
  rfl
 | f+1,g+1,o,[],_,_=>rfl
 | f+1,g+1,o,c :: r,h,h'=>by
  simp only[List.length_cons] at h h'
  unfold scan
  split
  · exact scan_fuel f g _ _ (by omega) (by omega)
  split
  · rename_i h1 h2
    have hp:0 < wl line (c :: r):=wl_pos (by
     unfold line
     rw[decide_eq_true_iff]
     rintro rfl
     revert h2
     decide)
    exact scan_fuel f g _ _ (by rw[List.length_drop];simp;omega) (by rw[List.length_drop];simp;omega)
  split
  · rfl
  rename_i h1 h2 h3
  have hp:=tok_pos (c:=c) (r:=r) (by simpa using h3)
  rw[scan_fuel f g _ _ (by rw[List.length_drop];simp;omega) (by rw[List.length_drop];simp;omega)]
end Lx
end Go.Proofs.YtglepipfdmphhaaGreatDoor
