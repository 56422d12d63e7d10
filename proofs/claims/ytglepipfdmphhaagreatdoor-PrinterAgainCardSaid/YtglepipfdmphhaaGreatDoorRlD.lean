/-
 RlB, RlC, RlD in one text.
-/
import Derived.Test.YtglepipfdmphhaaGreatDoorRqE
import Derived.Test.YtglepipfdmphhaaGreatDoorLxI
import Derived.Recover
set_option maxRecDepth 100000
set_option maxHeartbeats 40000000
namespace Go.Proofs.YtglepipfdmphhaaGreatDoor
set_option linter.unusedVariables false
set_option linter.unusedSimpArgs false
open Go Go.RowKit Go.Shelf
open Lx (Tk)
def Par (w:World) (b:Nat) (l:List Tk) (en:Nat):Prop:=∃ ao cap,Blk w b [.slice ao l.length cap,.int .i64 (en:Int)] 104∧TokS w (.slice ao l.length cap) l∧∀ ad,ao=some ad→ad.block < b
theorem TokS.keepR {w w':World} {ao:Option Addr} {m cap:Nat} {l:List Tk} {own:List Nat} (h:TokS w (.slice ao m cap) l) (hc:Chg own w w') (ho:∀ ad,ao=some ad→ad.block ∉ own):TokS w' (.slice ao m cap) l:=by
 obtain ⟨ao',cap',h1,h2,h3⟩:=h
 cases h1
 refine ⟨ao,cap,rfl,h2,fun i t ht=>?_⟩
 obtain ⟨g,off,h4,h5,h6,h7,h8⟩:=h3 i t ht
 have hg:=hc.block g (World.block_lt_of_cell? _ _ h5) (ho _ h4)
 exact ⟨g,off,h4,(World.cell?_of_block (a:=⟨g,off+4*i,none⟩) hg).trans h5,(World.cell?_of_block (a:=⟨g,off+4*i+1,none⟩) hg).trans h6,(World.cell?_of_block (a:=⟨g,off+4*i+2,none⟩) hg).trans h7,(World.cell?_of_block (a:=⟨g,off+4*i+3,none⟩) hg).trans h8⟩
theorem Par.keep {w w':World} {b en:Nat} {l:List Tk} {own:List Nat} (h:Par w b l en) (hc:Chg own w w') (ho:∀ k ∈ own,b < k):Par w' b l en:=by
 obtain ⟨ao,cap,h1,h2,h3⟩:=h
 refine ⟨ao,cap,hc.blk h1 (fun hm=>Nat.lt_irrefl _ (ho b hm)),h2.keepR hc (fun ad ha hm=>?_),h3⟩
 have h4:=h3 ad ha
 have h5:=ho _ hm
 omega
theorem Par.quiet {w w':World} {b en:Nat} {l:List Tk} (h:Par w b l en) (hc:Chg [] w w'):Par w' b l en:=h.keep hc (by simp)
theorem Par.lt {w:World} {b en:Nat} {l:List Tk} (h:Par w b l en):b < w.heap.size:=by
 obtain ⟨ao,cap,h1,_⟩:=h
 exact h1.lt
theorem Par.cons {w:World} {b en:Nat} {t:Tk} {r:List Tk} (h:Par w b (t :: r) en):∃ g off cap,Blk w b [.slice (some ⟨g,off,none⟩) (r.length+1) cap,.int .i64 (en:Int)] 104∧r.length+1≤cap∧g < b ∧
 w.cell? ⟨g,off,none⟩=some (.int .i64 t.kind)∧w.cell? ⟨g,off+1,none⟩=some (.string ⟨t.text.toArray⟩)∧w.cell? ⟨g,off+2,none⟩=some (.int .i64 t.n)∧w.cell? ⟨g,off+3,none⟩=some (.int .i64 t.at_):=by
 obtain ⟨ao,cap,h1,⟨ao',cap',he,h2,h3⟩,h4⟩:=h
 cases he
 obtain ⟨g,off,rfl,h5,h6,h7,h8⟩:=h3 0 t rfl
 exact ⟨g,off,cap,h1,h2,h4 _ rfl,h5,h6,h7,h8⟩
theorem Par.nil {w:World} {b en:Nat} (h:Par w b [] en):∃ ao cap,Blk w b [.slice ao 0 cap,.int .i64 (en:Int)] 104:=by
 obtain ⟨ao,cap,h1,_⟩:=h
 exact ⟨ao,cap,h1⟩
theorem Par.step {w w':World} {b en g off cap off' cap':Nat} {t:Tk} {r:List Tk} (h:Par w b (t :: r) en) (hb:Blk w b [.slice (some ⟨g,off,none⟩) (r.length+1) cap,.int .i64 (en:Int)] 104)
 (hc:Chg [b] w w') (hb':Blk w' b [.slice (some ⟨g,off',none⟩) r.length cap',.int .i64 (en:Int)] 104) (ho:r≠[]→off'=off+4) (hl:r.length≤cap'):Par w' b r en:=by
 obtain ⟨ao,cap1,h1,h2,h4⟩:=h
 have e:=h1.same hb
 simp only[List.cons.injEq,Value.slice.injEq] at e
 obtain ⟨⟨rfl,_,rfl⟩,_⟩:=e
 have hg:g≠b:=Nat.ne_of_lt (h4 _ rfl)
 obtain ⟨ao',cap2,he,h2,h3⟩:=h2
 cases he
 refine ⟨_,_,hb',⟨_,_,rfl,hl,fun i u hu=>?_⟩,fun ad ha=>by cases ha;exact h4 ⟨g,off,none⟩ rfl⟩
 have e4:=ho (by rintro rfl;simp at hu)
 subst e4
 obtain ⟨g',off',h5,a1,a2,a3,a4⟩:=h3 (i+1) u (by simpa using hu)
 cases h5
 have hbk:=hc.block g (World.block_lt_of_cell? _ _ a1) (by simpa using hg)
 have e4:off+4+4*i=off+4*(i+1):=by omega
 refine ⟨g,off+4,rfl,?_⟩
 rw[e4]
 exact ⟨(World.cell?_of_block (a:=⟨g,off+4*(i+1),none⟩) hbk).trans a1,(World.cell?_of_block (a:=⟨g,off+4*(i+1)+1,none⟩) hbk).trans a2,(World.cell?_of_block (a:=⟨g,off+4*(i+1)+2,none⟩) hbk).trans a3,(World.cell?_of_block (a:=⟨g,off+4*(i+1)+3,none⟩) hbk).trans a4⟩
def fltR (e:Nat) (r:List Tk) (en:Nat):Value:=.iface 100 (.agg #[.int .i64 (Rl.code e r:Int),.int .i64 (Rl.place en r:Int)])
def PResR {α:Type} (w:World) (b en:Nat) (V:α→Value→World→Prop) (o:Rl.Out α) (e:Ending) (w':World):Prop :=
 Chg [b] w w'∧match o with
 | .ok a r=>∃ v,e = .returned v∧V a v w'∧Par w' b r en
 | .bad c r=>e = .panicked [{ v:=fltR c r en,recovered:=false }]
theorem fail_specR (w:World) (b en:Nat) (l:List Tk) (HP:Hid (Par w b l en)) (e:Nat) :
 Calls Tryz.prog 30 #[.pointer (some ⟨b,0,none⟩),.int .i64 (e:Int)] w fun x w'=>x = .panicked [{ v:=fltR e l en,recovered:=false }]∧w'=w:=by
 go_enter Tryz.func30,Tryz.ntmps30
 cases l with
 | nil =>
  obtain ⟨ao,cap,hb⟩:=HP.out.nil
  have c0:=hb.cell (i:=0) rfl
  have c1:=hb.cell (i:=1) rfl
  clear hb
  go_wp2_with fail
  exact ⟨rfl,rfl,rfl⟩
 | cons t r =>
  obtain ⟨g,off,cap,hb,hcap,hgb,k0,k1,k2,k3⟩:=HP.out.cons
  have c0:=hb.cell (i:=0) rfl
  have c1:=hb.cell (i:=1) rfl
  have n0:(((r.length+1:Nat):Int) == 0)=false:=beq_eq_false_iff_ne.2 (by omega)
  clear hb
  go_wp2_with fail
  exact ⟨rfl,rfl,rfl⟩
theorem peek_any (w:World) (b en:Nat) (l:List Tk) (HP:Hid (Par w b l en)) (k:Nat) :
 Calls Tryz.prog 54 #[.pointer (some ⟨b,0,none⟩),.int .i64 (k:Int),.slice none 0 0] w fun x w'=>x = .returned (.bool (Rl.is k none l))∧w'=w:=by
 go_enter Tryz.func54,Tryz.ntmps54
 cases l with
 | nil =>
  obtain ⟨ao,cap,hb⟩:=HP.out.nil
  have c0:=hb.cell (i:=0) rfl
  clear hb
  go_wp2_with fail
  go_ret
  exact ⟨rfl,rfl⟩
 | cons t r =>
  obtain ⟨g,off,cap,hb,hcap,hgb,k0,k1,k2,k3⟩:=HP.out.cons
  have c0:=hb.cell (i:=0) rfl
  have n0:(((r.length+1:Nat):Int) == 0)=false:=beq_eq_false_iff_ne.2 (by omega)
  clear hb
  by_cases hk:t.kind=k
  · have n1:((t.kind:Int) != (k:Int))=false:=by simp[hk]
    have HK:=Lib.hid hk
    clear hk
    go_wp2_with fail
    go_loop [28] (fun i=>i = .int .i64 0) (fun i=>0)
    case atStart=>rfl
    case round =>
     subst hrel
     go_wp2_with fail
     go_ret
     exact ⟨by simp[Rl.is,HK.out],rfl⟩
  have n1:((t.kind:Int) != (k:Int))=true:=bne_iff_ne.2 (by omega)
  have HK:=Lib.hid hk
  clear hk
  go_wp2_with fail
  go_ret
  exact ⟨by simp[Rl.is,HK.out],rfl⟩
theorem peek_text (w:World) (b en:Nat) (l:List Tk) (HP:Hid (Par w b l en)) (k:Nat) (s:Bytes) (ad:Addr) (n:Nat) (hs:w.cell? ad=some (.string ⟨s.toArray⟩)) :
 Calls Tryz.prog 54 #[.pointer (some ⟨b,0,none⟩),.int .i64 (k:Int),.slice (some ad) 1 n] w fun x w'=>x = .returned (.bool (Rl.is k (some s) l))∧w'=w:=by
 obtain ⟨ab,ao,av⟩:=ad
 go_enter Tryz.func54,Tryz.ntmps54
 cases l with
 | nil =>
  obtain ⟨ao,cap,hb⟩:=HP.out.nil
  have c0:=hb.cell (i:=0) rfl
  clear hb
  go_wp2_with fail
  go_ret
  exact ⟨rfl,rfl⟩
 | cons t r =>
  obtain ⟨g,off,cap,hb,hcap,hgb,k0,k1,k2,k3⟩:=HP.out.cons
  have c0:=hb.cell (i:=0) rfl
  have n0:(((r.length+1:Nat):Int) == 0)=false:=beq_eq_false_iff_ne.2 (by omega)
  clear hb
  by_cases hk:t.kind=k
  · have n1:((t.kind:Int) != (k:Int))=false:=by simp[hk]
    have HK:=Lib.hid hk
    clear hk
    go_wp2_with fail
    by_cases ht:t.text=s
    · have n2:(t.text == s)=true:=beq_iff_eq.2 ht
      have HT:=Lib.hid ht
      clear ht
      go_loop [28] (fun i=>i = .int .i64 0) (fun i=>0)
      case atStart=>rfl
      case round =>
       subst hrel
       go_wp2_with fail
       go_ret
       exact ⟨by simp[Rl.is,HK.out,HT.out],rfl⟩
    have n2:(t.text == s)=false:=beq_eq_false_iff_ne.2 ht
    have HT:=Lib.hid ht
    clear ht
    go_loop [28] (fun i=>i = .int .i64 0∨i = .int .i64 1) (fun i=>1 - (intOf i).toNat)
    case atStart=>exact .inl rfl
    case round =>
     rcases hrel with rfl|rfl
     · go_wp2_with fail
       go_round
       case rel=>exact .inr rfl
       case measure=>simp[intOf]
     go_wp2_with fail
     go_ret
     exact ⟨by simp[Rl.is,HK.out,HT.out],rfl⟩
  have n1:((t.kind:Int) != (k:Int))=true:=bne_iff_ne.2 (by omega)
  have HK:=Lib.hid hk
  clear hk
  go_wp2_with fail
  go_ret
  exact ⟨by simp[Rl.is,HK.out],rfl⟩
end Go.Proofs.YtglepipfdmphhaaGreatDoor
namespace Go.Proofs.YtglepipfdmphhaaGreatDoor
set_option linter.unusedVariables false
set_option linter.unusedSimpArgs false
open Go Go.RowKit Go.Shelf
open Lx (Tk)
def TxtV (w:World) (v:Value):Option Bytes→Prop
 | none=>v = .slice none 0 0
 | some s=>∃ ad n,v = .slice (some ad) 1 n∧w.cell? ad=some (.string ⟨s.toArray⟩)
theorem TxtV.quiet {w w':World} {v:Value} {x:Option Bytes} (h:TxtV w v x) (hc:Chg [] w w'):TxtV w' v x:=by
 cases x with
 | none=>exact h
 | some s =>
  obtain ⟨ad,n,h1,h2⟩:=h
  exact ⟨ad,n,h1,cell_quiet hc h2 (by simp)⟩
theorem TxtV.one (w:World) (s:Bytes) (e:TypeId) (n:Nat):TxtV (w.alloc (.cells #[.string ⟨s.toArray⟩] e)) (.slice (some ⟨w.heap.size,0,none⟩) 1 n) (some s) :=
 ⟨_,_,rfl,(Blk.new w [.string ⟨s.toArray⟩] e).cell (i:=0) rfl⟩
theorem peek_spec (w:World) (b en:Nat) (l:List Tk) (HP:Hid (Par w b l en)) (k:Nat) (x:Option Bytes) (v:Value) (HV:Hid (TxtV w v x)) :
 Calls Tryz.prog 54 #[.pointer (some ⟨b,0,none⟩),.int .i64 (k:Int),v] w fun e w'=>e = .returned (.bool (Rl.is k x l))∧w'=w:=by
 cases x with
 | none =>
  have h:v = .slice none 0 0:=HV.out
  rw[h]
  exact peek_any w b en l HP k
 | some s =>
  obtain ⟨ad,n,rfl,h2⟩:=HV.out
  exact peek_text w b en l HP k s ad n h2
def TokV (t:Tk) (v:Value) (w:World):Prop:=v = .agg #[.int .i64 t.kind,.string ⟨t.text.toArray⟩,.int .i64 t.n,.int .i64 t.at_]
theorem next_fin {w:World} {b en g off cap off' cap':Nat} {t:Tk} {r:List Tk} (HP:Par w b (t :: r) en) (hb:Blk w b [.slice (some ⟨g,off,none⟩) (r.length+1) cap,.int .i64 (en:Int)] 104)
 (ho:r≠[]→off'=off+4) (hl:r.length≤cap') (o1 o2:Obj) (v:Value) (hv:v = .slice (some ⟨g,off',none⟩) r.length cap') {k:Nat} {x:Option Bytes} (hi:Rl.is k x (t :: r)=true) :
 PResR w b en TokV (Rl.nxt k x (t :: r)) (.returned (tkv t)) (((w.setCell ⟨b,0,none⟩ v).alloc o1).alloc o2):=by
 subst hv
 have hc:Chg [b] w (((w.setCell ⟨b,0,none⟩ (.slice (some ⟨g,off',none⟩) r.length cap')).alloc o1).alloc o2):=(((Chg.refl _ _).setCell _ _ (.inl (by simp))).alloc _).alloc _
 refine ⟨hc,?_⟩
 have e:Rl.nxt k x (t :: r) = .ok t r:=by
  show (if Rl.is k x (t :: r)=true then Rl.Out.ok t r else Rl.Out.bad 4 (t :: r))=_
  rw[if_pos hi]
 rw[e]
 exact ⟨_,rfl,rfl,HP.step hb hc (((hb.set 0 _).alloc _).alloc _) ho hl⟩
theorem nxt_badR {k:Nat} {x:Option Bytes} {l:List Tk} (h:Rl.is k x l=false):Rl.nxt k x l = .bad 4 l:=by
 cases l with
 | nil=>rfl
 | cons t r =>
  show (if Rl.is k x (t :: r)=true then Rl.Out.ok t r else Rl.Out.bad 4 (t :: r))=_
  rw[h]
  rfl
theorem next_spec (w:World) (b en:Nat) (l:List Tk) (HP:Hid (Par w b l en)) (k:Nat) (x:Option Bytes) (v:Value) (HV:Hid (TxtV w v x)) :
 Calls Tryz.prog 55 #[.pointer (some ⟨b,0,none⟩),.int .i64 (k:Int),v] w fun e w'=>PResR w b en TokV (Rl.nxt k x l) e w':=by
 go_enter Tryz.func55,Tryz.ntmps55
 have hlt:=HP.out.lt
 have HP1:Hid (Par (w.alloc (.cells #[.int .i64 0,.string ⟨#[]⟩,.int .i64 0,.int .i64 0] 93)) b l en):=Lib.hid (HP.out.quiet ((Chg.refl _ _).alloc _))
 go_wp2_with fail
 refine (peek_spec _ b en l HP1 k x v (Lib.hid (HV.out.quiet ((Chg.refl _ _).alloc _)))).mono ?_
 rintro e w1 ⟨rfl,rfl⟩
 by_cases hi:Rl.is k x l=true
 · rw[hi]
   obtain ⟨t,r,rfl⟩:∃ t r,l=t :: r:=by
    cases l with
    | nil=>cases hi
    | cons t r=>exact ⟨t,r,rfl⟩
   obtain ⟨g,off,cap,hb,hcap,hgb,k0,k1,k2,k3⟩:=HP1.out.cons
   have c0:=hb.cell (i:=0) rfl
   have f0:=hb.free 0
   have hw:∀ o:Obj,Blk (w.alloc o) b [.slice (some ⟨g,off,none⟩) (r.length+1) cap,.int .i64 (en:Int)] 104→Blk w b [.slice (some ⟨g,off,none⟩) (r.length+1) cap,.int .i64 (en:Int)] 104:=fun o h=>(Below.heap_alloc w o b hlt).symm.trans h
   have HB0:=Lib.hid (hw _ hb)
   have HI:=Lib.hid hi
   clear hb hw hi
   by_cases hc1:cap=1
   · subst hc1
     have HR:=Lib.hid hcap
     go_wp2_with fail
     refine bodyPost_ret (v:=tkv t) (by simp[results,Tryz.results55,go_sem,tkv]) rfl (next_fin HP.out HB0.out (off':=off) (cap':=0) (fun h=>?_) ?_ _ _ _ ?_ HI.out)
     · have:=HR.out
       exact absurd (List.eq_nil_of_length_eq_zero (by omega)) h
     · have:=HR.out
       omega
     have:=HR.out
     rw[show r.length=0 by omega]
   obtain ⟨c,rfl⟩:∃ c,cap=c+2:=⟨cap - 2,by omega⟩
   go_wp2_with fail
   exact bodyPost_ret (v:=tkv t) (by simp[results,Tryz.results55,go_sem,tkv]) rfl (next_fin HP.out HB0.out (off':=off+4) (cap':=c+1) (fun h=>rfl) (by omega) _ _ _ rfl HI.out)
 have hi0:Rl.is k x l=false:=by simpa using hi
 rw[hi0]
 go_wp2_with fail
 refine (fail_specR _ b en l HP1 4).mono ?_
 rintro e w1 ⟨rfl,rfl⟩
 go_wp2_with fail
 refine ⟨rfl,(Chg.refl _ _).alloc _,?_⟩
 rw[nxt_badR hi0]
theorem skip_yes (w:World) (b en:Nat) (t:Tk) (r:List Tk) (HP:Hid (Par w b (t :: r) en)) (s:Bytes) (HI:Hid (Rl.is 1 (some s) (t :: r)=true)) :
 Calls Tryz.prog 56 #[.pointer (some ⟨b,0,none⟩),.string ⟨s.toArray⟩] w fun e w'=>e = .returned (.bool true)∧Par w' b r en∧Chg [b] w w':=by
 go_enter Tryz.func56,Tryz.ntmps56
 have hlt:=HP.out.lt
 go_wp2_with fail
 have HP1:Hid (Par (w.alloc (.cells #[.string ⟨s.toArray⟩] 9)) b (t :: r) en):=Lib.hid (HP.out.quiet ((Chg.refl _ _).alloc _))
 refine (peek_spec _ b en _ HP1 1 (some s) _ (Lib.hid (TxtV.one _ _ _ _))).mono ?_
 rintro e w1 ⟨rfl,rfl⟩
 rw[HI.out]
 obtain ⟨g,off,cap,hb,hcap,hgb,k0,k1,k2,k3⟩:=HP1.out.cons
 have c0:=hb.cell (i:=0) rfl
 have f0:=hb.free 0
 have hw:∀ o:Obj,Blk (w.alloc o) b [.slice (some ⟨g,off,none⟩) (r.length+1) cap,.int .i64 (en:Int)] 104→Blk w b [.slice (some ⟨g,off,none⟩) (r.length+1) cap,.int .i64 (en:Int)] 104:=fun o h=>(Below.heap_alloc w o b hlt).symm.trans h
 have HB0:=Lib.hid (hw _ hb)
 clear hb hw
 by_cases hc1:cap=1
 · subst hc1
   have HR:=Lib.hid hcap
   go_wp2_with fail
   have hr0:r.length=0:=by have:=HR.out;omega
   have hc:=((Chg.refl [b] w).setCell ⟨b,0,none⟩ (.slice (some ⟨g,off,none⟩) 0 0) (.inl (by simp))).alloc (.cells #[.string ⟨s.toArray⟩] 9)
   exact bodyPost_ret (v:=.bool true) (by simp[results,Tryz.results56,go_sem]) rfl ⟨rfl,HP.out.step HB0.out hc (off':=off) (cap':=0) (by rw[hr0];exact (HB0.out.set 0 _).alloc _) (fun h=>absurd (List.eq_nil_of_length_eq_zero hr0) h) (by omega),hc⟩
 obtain ⟨c,rfl⟩:∃ c,cap=c+2:=⟨cap - 2,by omega⟩
 go_wp2_with fail
 have hc:=((Chg.refl [b] w).setCell ⟨b,0,none⟩ (.slice (some ⟨g,off+4,none⟩) r.length (c+1)) (.inl (by simp))).alloc (.cells #[.string ⟨s.toArray⟩] 9)
 exact bodyPost_ret (v:=.bool true) (by simp[results,Tryz.results56,go_sem]) rfl ⟨rfl,HP.out.step HB0.out hc (off':=off+4) (cap':=c+1) ((HB0.out.set 0 _).alloc _) (fun h=>rfl) (by omega),hc⟩
theorem skip_no (w:World) (b en:Nat) (l:List Tk) (HP:Hid (Par w b l en)) (s:Bytes) (HI:Hid (Rl.is 1 (some s) l=false)) :
 Calls Tryz.prog 56 #[.pointer (some ⟨b,0,none⟩),.string ⟨s.toArray⟩] w fun e w'=>e = .returned (.bool false)∧Chg [] w w':=by
 go_enter Tryz.func56,Tryz.ntmps56
 go_wp2_with fail
 have HP1:Hid (Par (w.alloc (.cells #[.string ⟨s.toArray⟩] 9)) b l en):=Lib.hid (HP.out.quiet ((Chg.refl _ _).alloc _))
 refine (peek_spec _ b en _ HP1 1 (some s) _ (Lib.hid (TxtV.one _ _ _ _))).mono ?_
 rintro e w1 ⟨rfl,rfl⟩
 rw[HI.out]
 go_wp2_with fail
 go_ret
 exact ⟨rfl,(Chg.refl _ _).alloc _⟩
end Go.Proofs.YtglepipfdmphhaaGreatDoor
namespace Go.Proofs.YtglepipfdmphhaaGreatDoor
set_option linter.unusedVariables false
set_option linter.unusedSimpArgs false
open Go Go.RowKit Go.Shelf
open Lx (Tk)
def RatV (p:Nat × Nat) (v:Value) (w:World):Prop:=v = .agg #[.int .i64 (p.1:Int),.int .i64 (p.2:Int)]
theorem chg1R {b:Nat} {w w1 w2:World} (h:Chg [b] w w1) (h2:Chg [b] w1 w2):Chg [b] w w2:=h.trans h2 (by simp)
theorem chg01R {b:Nat} {w w1 w2:World} (h:Chg [] w w1) (h2:Chg [b] w1 w2):Chg [b] w w2:=(h.mono (by simp)).trans h2 (by simp)
theorem chg10 {b:Nat} {w w1 w2:World} (h:Chg [b] w w1) (h2:Chg [] w1 w2):Chg [b] w w2:=h.trans h2 (by simp)
theorem TxtV.nil (w:World):TxtV w (.slice none 0 0) none:=rfl
theorem fld1 (a b c d:Value) (w:World):(Instr.field 93 (.agg #[a,b,c,d]) 1).run Tryz.prog w = .ok b w:=by kernel_rfl
theorem fld2 (a b c d:Value) (w:World):(Instr.field 93 (.agg #[a,b,c,d]) 2).run Tryz.prog w = .ok c w:=by kernel_rfl
theorem next_two {w:World} {b en:Nat} {l:List Tk} (HP:Hid (Par w b l en)) {k:Nat} {x:Option Bytes} {v:Value} (HV:Hid (TxtV w v x)) {R:Ending→World→Prop}
 (hok:∀ (t:Tk) (r:List Tk) (w':World),Hid (Rl.nxt k x l = .ok t r)→Hid (Par w' b r en)→Hid (Chg [b] w w')→R (.returned (.agg #[.int .i64 t.kind,.string ⟨t.text.toArray⟩,.int .i64 t.n,.int .i64 t.at_])) w')
 (hbad:∀ (c:Nat) (r:List Tk) (w':World),Hid (Rl.nxt k x l = .bad c r)→Hid (Chg [b] w w')→R (.panicked [{ v:=fltR c r en,recovered:=false }]) w') :
 Calls Tryz.prog 55 #[.pointer (some ⟨b,0,none⟩),.int .i64 (k:Int),v] w R:=by
 refine (next_spec w b en l HP k x v HV).mono ?_
 rintro e w' ⟨hc,hr⟩
 cases hn:Rl.nxt k x l with
 | ok t r =>
  rw[hn] at hr
  obtain ⟨u,rfl,rfl,hp⟩:=hr
  exact hok t r w' (Lib.hid hn) (Lib.hid hp) (Lib.hid hc)
 | bad c r =>
  rw[hn] at hr
  subst hr
  exact hbad c r w' (Lib.hid hn) (Lib.hid hc)
theorem pbadR {α:Type} {w w':World} {b en:Nat} {V:α→Value→World→Prop} {O:Rl.Out α} {c:Nat} {r:List Tk} (hc:Chg [b] w w') (h:O = .bad c r):PResR w b en V O (.panicked [{ v:=fltR c r en,recovered:=false }]) w':=by
 subst h
 exact ⟨hc,rfl⟩
theorem pok {α:Type} {w w':World} {b en:Nat} {V:α→Value→World→Prop} {O:Rl.Out α} {a:α} {r:List Tk} {v:Value} (hc:Chg [b] w w') (hp:Par w' b r en) (hv:V a v w') (h:O = .ok a r):PResR w b en V O (.returned v) w':=by
 subst h
 exact ⟨hc,v,rfl,hv,hp⟩
theorem pres_twoR {α:Type} {w w':World} {b en:Nat} {V:α→Value→World→Prop} {O:Rl.Out α} {e:Ending} {R:Ending→World→Prop} (h:PResR w b en V O e w')
 (hok:∀ (a:α) (r:List Tk) (v:Value),Hid (O = .ok a r)→Hid (Par w' b r en)→Hid (Chg [b] w w')→V a v w'→R (.returned v) w')
 (hbad:∀ (c:Nat) (r:List Tk),Hid (O = .bad c r)→Hid (Chg [b] w w')→R (.panicked [{ v:=fltR c r en,recovered:=false }]) w'):R e w':=by
 obtain ⟨hc,hr⟩:=h
 cases hn:O with
 | ok a r =>
  rw[hn] at hr
  obtain ⟨v,rfl,hv,hp⟩:=hr
  exact hok a r v (Lib.hid hn) (Lib.hid hp) (Lib.hid hc) hv
 | bad c r =>
  rw[hn] at hr
  subst hr
  exact hbad c r (Lib.hid hn) (Lib.hid hc)
theorem Par.setCell {w:World} {b en g i:Nat} {l:List Tk} {v:Value} (h:Par w b l en) (hg:b < g):Par (w.setCell ⟨g,i,none⟩ v) b l en :=
 h.keep (own:=[g]) ((Chg.refl _ _).setCell _ _ (.inl (by simp))) (fun k hk=>by simp at hk;omega)
theorem Par.alloc {w:World} {b en:Nat} {l:List Tk} (h:Par w b l en) (o:Obj):Par (w.alloc o) b l en:=h.quiet ((Chg.refl _ _).alloc _)
theorem ratio_spec (w:World) (b en:Nat) (l:List Tk) (HP:Hid (Par w b l en)) :
 Calls Tryz.prog 79 #[.pointer (some ⟨b,0,none⟩)] w fun e w'=>PResR w b en RatV (Rl.ratio l) e w':=by
 obtain ⟨O,hO⟩:∃ O,O=Rl.ratio l:=⟨_,rfl⟩
 rw[← hO]
 have HO:=Lib.hid hO
 clear hO
 have hf2:=fld2
 go_enter Tryz.func79,Tryz.ntmps79
 go_upto_region 1 with fail
 obtain ⟨W,hW⟩:∃ W,W=w.alloc (.cells #[.int .i64 0,.int .i64 0] 67):=⟨_,rfl⟩
 rw[← hW]
 obtain ⟨B,hB⟩:∃ B,B=w.heap.size:=⟨_,rfl⟩
 rw[← hB]
 have HC0:Hid (Chg [] w W):=Lib.hid (by rw[hW];exact (Chg.refl _ _).alloc _)
 have HK0:Hid (Blk W B [.int .i64 0,.int .i64 0] 67):=Lib.hid (by rw[hW,hB];exact Blk.new w _ _)
 have HN:Hid (b < B∧w.heap.size≤B):=Lib.hid (by have:=HP.out.lt;omega)
 have HP0:Hid (Par W b l en):=Lib.hid (HP.out.quiet HC0.out)
 clear hW hB
 go_wp2_with fail
 refine next_two HP0 (Lib.hid (TxtV.nil _)) (fun t r w1 HN1 HP1 HC1=>?_) (fun c r w1 HN1 HC1=>?_)
 · go_wp2_with fail
   have HT:Hid (Chg [] w1 (w1.alloc (.cells #[.string ⟨#[47]⟩] 9))):=Lib.hid ((Chg.refl _ _).alloc _)
   refine next_two (Lib.hid (HP1.out.quiet HT.out)) (Lib.hid (TxtV.one w1 [47] 9 1)) (fun t2 r2 w2 HN2 HP2 HC2=>?_) (fun c r2 w2 HN2 HC2=>?_)
   · go_wp2_with fail
     refine next_two HP2 (Lib.hid (TxtV.nil _)) (fun t3 r3 w3 HN3 HP3 HC3=>?_) (fun c r3 w3 HN3 HC3=>?_)
     · have HC:Hid (Chg [b] W w3):=Lib.hid (chg1R (chg1R HC1.out (chg01R HT.out HC2.out)) HC3.out)
       have hk:=HC.out.blk HK0.out (by have:=HN.out.1;simp;omega)
       have HK:=Lib.hid hk
       have x0:=hk.cell (i:=0) rfl
       have x1:=hk.cell (i:=1) rfl
       have f0:=hk.free 0
       have f1:=hk.free 1
       clear hk
       go_wp2_with fail
       refine bodyPost_ret (v:=.agg #[.int .i64 t.n,.int .i64 t3.n]) (by simp[results,Tryz.results79,go_sem,x0,x1]) rfl (pok ?_ ((HP3.out.setCell HN.out.1).setCell HN.out.1) (a:=(t.n,t3.n)) rfl ?_)
       · exact ((chg01R HC0.out HC.out).setCell _ _ (.inr HN.out.2)).setCell _ _ (.inr HN.out.2)
       rw[HO.out]
       unfold Rl.ratio
       rw[HN1.out]
       simp only[Rl.Out.bind]
       rw[HN2.out]
       simp only
       rw[HN3.out]
     go_wp2_with fail
     exact ⟨rfl,pbadR (chg01R HC0.out (chg1R (chg1R HC1.out (chg01R HT.out HC2.out)) HC3.out)) (by rw[HO.out];unfold Rl.ratio;rw[HN1.out];simp only[Rl.Out.bind];rw[HN2.out];simp only;rw[HN3.out])⟩
   go_wp2_with fail
   exact ⟨rfl,pbadR (chg01R HC0.out (chg1R HC1.out (chg01R HT.out HC2.out))) (by rw[HO.out];unfold Rl.ratio;rw[HN1.out];simp only[Rl.Out.bind];rw[HN2.out])⟩
 go_wp2_with fail
 exact ⟨rfl,pbadR (chg01R HC0.out HC1.out) (by rw[HO.out];unfold Rl.ratio;rw[HN1.out];rfl)⟩
theorem ratio_two {w:World} {b en:Nat} {l:List Tk} (HP:Hid (Par w b l en)) {R:Ending→World→Prop}
 (hok:∀ (n d:Nat) (r:List Tk) (w':World),Hid (Rl.ratio l = .ok (n,d) r)→Hid (Par w' b r en)→Hid (Chg [b] w w')→R (.returned (.agg #[.int .i64 n,.int .i64 d])) w')
 (hbad:∀ (c:Nat) (r:List Tk) (w':World),Hid (Rl.ratio l = .bad c r)→Hid (Chg [b] w w')→R (.panicked [{ v:=fltR c r en,recovered:=false }]) w') :
 Calls Tryz.prog 79 #[.pointer (some ⟨b,0,none⟩)] w R:=by
 refine (ratio_spec w b en l HP).mono ?_
 rintro e w' h
 refine pres_twoR h (fun a r v h1 h2 h3 h4=>?_) (fun c r h1 h2=>hbad c r w' h1 h2)
 obtain ⟨n,d⟩:=a
 have h4:v = .agg #[.int .i64 n,.int .i64 d]:=h4
 subst h4
 exact hok n d r w' h1 h2 h3
theorem after_spec (w:World) (b en:Nat) (l:List Tk) (s:Bytes) (HP:Hid (Par w b l en)) :
 Calls Tryz.prog 80 #[.pointer (some ⟨b,0,none⟩),.string ⟨s.toArray⟩] w fun e w'=>PResR w b en RatV (Rl.after s l) e w':=by
 obtain ⟨O,hO⟩:∃ O,O=Rl.after s l:=⟨_,rfl⟩
 rw[← hO]
 have HO:=Lib.hid hO
 clear hO
 go_enter Tryz.func80,Tryz.ntmps80
 go_upto_region 1 with fail
 obtain ⟨W,hW⟩:∃ W,W=w.alloc (.cells #[.int .i64 0,.int .i64 0] 67):=⟨_,rfl⟩
 rw[← hW]
 obtain ⟨B,hB⟩:∃ B,B=w.heap.size:=⟨_,rfl⟩
 rw[← hB]
 have HC0:Hid (Chg [] w W):=Lib.hid (by rw[hW];exact (Chg.refl _ _).alloc _)
 have HK0:Hid (Blk W B [.int .i64 0,.int .i64 0] 67):=Lib.hid (by rw[hW,hB];exact Blk.new w _ _)
 have HN:Hid (b < B∧w.heap.size≤B):=Lib.hid (by have:=HP.out.lt;omega)
 have HP0:Hid (Par W b l en):=Lib.hid (HP.out.quiet HC0.out)
 clear hW hB
 go_wp2_with fail
 have HT:Hid (Chg [] W (W.alloc (.cells #[.string ⟨s.toArray⟩] 9))):=Lib.hid ((Chg.refl _ _).alloc _)
 refine next_two (Lib.hid (HP0.out.quiet HT.out)) (Lib.hid (TxtV.one W s 9 1)) (fun t r w1 HN1 HP1 HC1=>?_) (fun c r w1 HN1 HC1=>?_)
 · go_wp2_with fail
   refine ratio_two HP1 (fun n d r2 w2 HN2 HP2 HC2=>?_) (fun c r2 w2 HN2 HC2=>?_)
   · have HC:Hid (Chg [b] W w2):=Lib.hid (chg1R (chg01R HT.out HC1.out) HC2.out)
     have hk:=HC.out.blk HK0.out (by have:=HN.out.1;simp;omega)
     have HK:=Lib.hid hk
     have x0:=hk.cell (i:=0) rfl
     have x1:=hk.cell (i:=1) rfl
     have f0:=hk.free 0
     have f1:=hk.free 1
     clear hk
     go_wp2_with fail
     refine bodyPost_ret (v:=.agg #[.int .i64 n,.int .i64 d]) (by simp[results,Tryz.results80,go_sem,x0,x1]) rfl (pok ?_ ((HP2.out.setCell HN.out.1).setCell HN.out.1) (a:=(n,d)) rfl ?_)
     · exact ((chg01R HC0.out HC.out).setCell _ _ (.inr HN.out.2)).setCell _ _ (.inr HN.out.2)
     rw[HO.out]
     unfold Rl.after
     rw[HN1.out]
     exact HN2.out
   go_wp2_with fail
   exact ⟨rfl,pbadR (chg01R HC0.out (chg1R (chg01R HT.out HC1.out) HC2.out)) (by rw[HO.out];unfold Rl.after;rw[HN1.out];exact HN2.out)⟩
 go_wp2_with fail
 exact ⟨rfl,pbadR (chg01R HC0.out (chg01R HT.out HC1.out)) (by rw[HO.out];unfold Rl.after;rw[HN1.out];rfl)⟩
theorem after_two {w:World} {b en:Nat} {l:List Tk} (HP:Hid (Par w b l en)) (s:Bytes) {R:Ending→World→Prop}
 (hok:∀ (n d:Nat) (r:List Tk) (w':World),Hid (Rl.after s l = .ok (n,d) r)→Hid (Par w' b r en)→Hid (Chg [b] w w')→R (.returned (.agg #[.int .i64 n,.int .i64 d])) w')
 (hbad:∀ (c:Nat) (r:List Tk) (w':World),Hid (Rl.after s l = .bad c r)→Hid (Chg [b] w w')→R (.panicked [{ v:=fltR c r en,recovered:=false }]) w') :
 Calls Tryz.prog 80 #[.pointer (some ⟨b,0,none⟩),.string ⟨s.toArray⟩] w R:=by
 refine (after_spec w b en l s HP).mono ?_
 rintro e w' h
 refine pres_twoR h (fun a r v h1 h2 h3 h4=>?_) (fun c r h1 h2=>hbad c r w' h1 h2)
 obtain ⟨n,d⟩:=a
 have h4:v = .agg #[.int .i64 n,.int .i64 d]:=h4
 subst h4
 exact hok n d r w' h1 h2 h3
end Go.Proofs.YtglepipfdmphhaaGreatDoor
