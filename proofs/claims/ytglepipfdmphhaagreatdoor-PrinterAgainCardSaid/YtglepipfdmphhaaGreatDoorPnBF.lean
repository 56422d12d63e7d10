/-
 PnB, PnC, PnD, PnE, PnF in one text.
-/
import Derived.Test.YtglepipfdmphhaaGreatDoorPrTk
import Derived.Test.YtglepipfdmphhaaGreatDoorPoC
import Derived.Test.YtglepipfdmphhaaGreatDoorLxI
import Derived.Recover
import Derived.Deep.DrawnRows
import Derived.Deep.RegionHeld3
set_option maxRecDepth 100000
set_option maxHeartbeats 40000000
namespace Go.Proofs.YtglepipfdmphhaaGreatDoor
set_option linter.unusedVariables false
set_option linter.unusedSimpArgs false
open Go Go.RowKit Go.Shelf
open Lx (Tk)
theorem al3 {p:Nat→Prop} {a b c:Nat} (h:p a) (h1:p b) (h2:p c):∀ k ∈ [a,b,c],p k:=fun k hk=>(List.mem_cons.1 hk).elim (fun e=>e ▸ h) (al2 h1 h2 k)
theorem al4 {p:Nat→Prop} {a b c d:Nat} (h:p a) (h1:p b) (h2:p c) (h3:p d):∀ k ∈ [a,b,c,d],p k:=fun k hk=>(List.mem_cons.1 hk).elim (fun e=>e ▸ h) (al3 h1 h2 h3 k)
theorem Blk.o1 {w W:World} {b c:Nat} {cs:List Value} {e:TypeId} {i1:Nat} {v1:Value} (h:Blk w b cs e) (hW:W=(w.setCell ⟨c,i1,none⟩ v1)) (n:b≠c):Blk W b cs e:=hW ▸ (h.other _ _ n)
theorem Chg.s1 {own:List Nat} {u w W:World} {c:Nat} {i1:Nat} {v1:Value} (h:Chg own u w) (hW:W=(w.setCell ⟨c,i1,none⟩ v1)) (n:c ∈ own∨u.heap.size≤c):Chg own u W:=hW ▸ (h.setCell _ _ n)
theorem Blk.o2 {w W:World} {b c:Nat} {cs:List Value} {e:TypeId} {i1 i2:Nat} {v1 v2:Value} (h:Blk w b cs e) (hW:W=((w.setCell ⟨c,i1,none⟩ v1).setCell ⟨c,i2,none⟩ v2)) (n:b≠c):Blk W b cs e:=hW ▸ ((h.other _ _ n).other _ _ n)
theorem Chg.s2 {own:List Nat} {u w W:World} {c:Nat} {i1 i2:Nat} {v1 v2:Value} (h:Chg own u w) (hW:W=((w.setCell ⟨c,i1,none⟩ v1).setCell ⟨c,i2,none⟩ v2)) (n:c ∈ own∨u.heap.size≤c):Chg own u W:=hW ▸ ((h.setCell _ _ n).setCell _ _ n)
theorem Blk.o3 {w W:World} {b c:Nat} {cs:List Value} {e:TypeId} {i1 i2 i3:Nat} {v1 v2 v3:Value} (h:Blk w b cs e) (hW:W=(((w.setCell ⟨c,i1,none⟩ v1).setCell ⟨c,i2,none⟩ v2).setCell ⟨c,i3,none⟩ v3)) (n:b≠c):Blk W b cs e:=hW ▸ (((h.other _ _ n).other _ _ n).other _ _ n)
theorem Chg.s3 {own:List Nat} {u w W:World} {c:Nat} {i1 i2 i3:Nat} {v1 v2 v3:Value} (h:Chg own u w) (hW:W=(((w.setCell ⟨c,i1,none⟩ v1).setCell ⟨c,i2,none⟩ v2).setCell ⟨c,i3,none⟩ v3)) (n:c ∈ own∨u.heap.size≤c):Chg own u W:=hW ▸ (((h.setCell _ _ n).setCell _ _ n).setCell _ _ n)
theorem Blk.o4 {w W:World} {b c:Nat} {cs:List Value} {e:TypeId} {i1 i2 i3 i4:Nat} {v1 v2 v3 v4:Value} (h:Blk w b cs e) (hW:W=((((w.setCell ⟨c,i1,none⟩ v1).setCell ⟨c,i2,none⟩ v2).setCell ⟨c,i3,none⟩ v3).setCell ⟨c,i4,none⟩ v4)) (n:b≠c):Blk W b cs e:=hW ▸ ((((h.other _ _ n).other _ _ n).other _ _ n).other _ _ n)
theorem Chg.s4 {own:List Nat} {u w W:World} {c:Nat} {i1 i2 i3 i4:Nat} {v1 v2 v3 v4:Value} (h:Chg own u w) (hW:W=((((w.setCell ⟨c,i1,none⟩ v1).setCell ⟨c,i2,none⟩ v2).setCell ⟨c,i3,none⟩ v3).setCell ⟨c,i4,none⟩ v4)) (n:c ∈ own∨u.heap.size≤c):Chg own u W:=hW ▸ ((((h.setCell _ _ n).setCell _ _ n).setCell _ _ n).setCell _ _ n)
theorem Blk.o5 {w W:World} {b c:Nat} {cs:List Value} {e:TypeId} {i1 i2 i3 i4 i5:Nat} {v1 v2 v3 v4 v5:Value} (h:Blk w b cs e) (hW:W=(((((w.setCell ⟨c,i1,none⟩ v1).setCell ⟨c,i2,none⟩ v2).setCell ⟨c,i3,none⟩ v3).setCell ⟨c,i4,none⟩ v4).setCell ⟨c,i5,none⟩ v5)) (n:b≠c):Blk W b cs e:=hW ▸ (((((h.other _ _ n).other _ _ n).other _ _ n).other _ _ n).other _ _ n)
theorem Chg.s5 {own:List Nat} {u w W:World} {c:Nat} {i1 i2 i3 i4 i5:Nat} {v1 v2 v3 v4 v5:Value} (h:Chg own u w) (hW:W=(((((w.setCell ⟨c,i1,none⟩ v1).setCell ⟨c,i2,none⟩ v2).setCell ⟨c,i3,none⟩ v3).setCell ⟨c,i4,none⟩ v4).setCell ⟨c,i5,none⟩ v5)) (n:c ∈ own∨u.heap.size≤c):Chg own u W:=hW ▸ (((((h.setCell _ _ n).setCell _ _ n).setCell _ _ n).setCell _ _ n).setCell _ _ n)
theorem Blk.o6 {w W:World} {b c:Nat} {cs:List Value} {e:TypeId} {i1 i2 i3 i4 i5 i6:Nat} {v1 v2 v3 v4 v5 v6:Value} (h:Blk w b cs e) (hW:W=((((((w.setCell ⟨c,i1,none⟩ v1).setCell ⟨c,i2,none⟩ v2).setCell ⟨c,i3,none⟩ v3).setCell ⟨c,i4,none⟩ v4).setCell ⟨c,i5,none⟩ v5).setCell ⟨c,i6,none⟩ v6)) (n:b≠c):Blk W b cs e:=hW ▸ ((((((h.other _ _ n).other _ _ n).other _ _ n).other _ _ n).other _ _ n).other _ _ n)
theorem Chg.s6 {own:List Nat} {u w W:World} {c:Nat} {i1 i2 i3 i4 i5 i6:Nat} {v1 v2 v3 v4 v5 v6:Value} (h:Chg own u w) (hW:W=((((((w.setCell ⟨c,i1,none⟩ v1).setCell ⟨c,i2,none⟩ v2).setCell ⟨c,i3,none⟩ v3).setCell ⟨c,i4,none⟩ v4).setCell ⟨c,i5,none⟩ v5).setCell ⟨c,i6,none⟩ v6)) (n:c ∈ own∨u.heap.size≤c):Chg own u W:=hW ▸ ((((((h.setCell _ _ n).setCell _ _ n).setCell _ _ n).setCell _ _ n).setCell _ _ n).setCell _ _ n)
theorem Blk.o7 {w W:World} {b c:Nat} {cs:List Value} {e:TypeId} {i1 i2 i3 i4 i5 i6 i7:Nat} {v1 v2 v3 v4 v5 v6 v7:Value} (h:Blk w b cs e) (hW:W=(((((((w.setCell ⟨c,i1,none⟩ v1).setCell ⟨c,i2,none⟩ v2).setCell ⟨c,i3,none⟩ v3).setCell ⟨c,i4,none⟩ v4).setCell ⟨c,i5,none⟩ v5).setCell ⟨c,i6,none⟩ v6).setCell ⟨c,i7,none⟩ v7)) (n:b≠c):Blk W b cs e:=hW ▸ (((((((h.other _ _ n).other _ _ n).other _ _ n).other _ _ n).other _ _ n).other _ _ n).other _ _ n)
theorem Chg.s7 {own:List Nat} {u w W:World} {c:Nat} {i1 i2 i3 i4 i5 i6 i7:Nat} {v1 v2 v3 v4 v5 v6 v7:Value} (h:Chg own u w) (hW:W=(((((((w.setCell ⟨c,i1,none⟩ v1).setCell ⟨c,i2,none⟩ v2).setCell ⟨c,i3,none⟩ v3).setCell ⟨c,i4,none⟩ v4).setCell ⟨c,i5,none⟩ v5).setCell ⟨c,i6,none⟩ v6).setCell ⟨c,i7,none⟩ v7)) (n:c ∈ own∨u.heap.size≤c):Chg own u W:=hW ▸ (((((((h.setCell _ _ n).setCell _ _ n).setCell _ _ n).setCell _ _ n).setCell _ _ n).setCell _ _ n).setCell _ _ n)
theorem Blk.o8 {w W:World} {b c:Nat} {cs:List Value} {e:TypeId} {i1 i2 i3 i4 i5 i6 i7 i8:Nat} {v1 v2 v3 v4 v5 v6 v7 v8:Value} (h:Blk w b cs e) (hW:W=((((((((w.setCell ⟨c,i1,none⟩ v1).setCell ⟨c,i2,none⟩ v2).setCell ⟨c,i3,none⟩ v3).setCell ⟨c,i4,none⟩ v4).setCell ⟨c,i5,none⟩ v5).setCell ⟨c,i6,none⟩ v6).setCell ⟨c,i7,none⟩ v7).setCell ⟨c,i8,none⟩ v8)) (n:b≠c):Blk W b cs e:=hW ▸ ((((((((h.other _ _ n).other _ _ n).other _ _ n).other _ _ n).other _ _ n).other _ _ n).other _ _ n).other _ _ n)
theorem Chg.s8 {own:List Nat} {u w W:World} {c:Nat} {i1 i2 i3 i4 i5 i6 i7 i8:Nat} {v1 v2 v3 v4 v5 v6 v7 v8:Value} (h:Chg own u w) (hW:W=((((((((w.setCell ⟨c,i1,none⟩ v1).setCell ⟨c,i2,none⟩ v2).setCell ⟨c,i3,none⟩ v3).setCell ⟨c,i4,none⟩ v4).setCell ⟨c,i5,none⟩ v5).setCell ⟨c,i6,none⟩ v6).setCell ⟨c,i7,none⟩ v7).setCell ⟨c,i8,none⟩ v8)) (n:c ∈ own∨u.heap.size≤c):Chg own u W:=hW ▸ ((((((((h.setCell _ _ n).setCell _ _ n).setCell _ _ n).setCell _ _ n).setCell _ _ n).setCell _ _ n).setCell _ _ n).setCell _ _ n)
theorem Blk.c3 {w:World} {b:Nat} {a0 a1 a2:Value} {l:List Value} {e:TypeId} (h:Blk w b (a0 :: a1 :: a2 :: l) e):w.cell? ⟨b,0,none⟩=some a0∧w.cell? ⟨b,1,none⟩=some a1∧w.cell? ⟨b,2,none⟩=some a2:=⟨h.cell rfl,h.cell rfl,h.cell rfl⟩
theorem Blk.f3 {w:World} {b:Nat} {cs:List Value} {e:TypeId} (h:Blk w b cs e):w.frozen? ⟨b,0,none⟩=false∧w.frozen? ⟨b,1,none⟩=false∧w.frozen? ⟨b,2,none⟩=false:=⟨h.free 0,h.free 1,h.free 2⟩
theorem Blk.c4 {w:World} {b:Nat} {a0 a1 a2 a3:Value} {l:List Value} {e:TypeId} (h:Blk w b (a0 :: a1 :: a2 :: a3 :: l) e):w.cell? ⟨b,0,none⟩=some a0∧w.cell? ⟨b,1,none⟩=some a1∧w.cell? ⟨b,2,none⟩=some a2∧w.cell? ⟨b,3,none⟩=some a3:=⟨h.cell rfl,h.cell rfl,h.cell rfl,h.cell rfl⟩
theorem Blk.f4 {w:World} {b:Nat} {cs:List Value} {e:TypeId} (h:Blk w b cs e):w.frozen? ⟨b,0,none⟩=false∧w.frozen? ⟨b,1,none⟩=false∧w.frozen? ⟨b,2,none⟩=false∧w.frozen? ⟨b,3,none⟩=false:=⟨h.free 0,h.free 1,h.free 2,h.free 3⟩
theorem Blk.c5 {w:World} {b:Nat} {a0 a1 a2 a3 a4:Value} {l:List Value} {e:TypeId} (h:Blk w b (a0 :: a1 :: a2 :: a3 :: a4 :: l) e):w.cell? ⟨b,0,none⟩=some a0∧w.cell? ⟨b,1,none⟩=some a1∧w.cell? ⟨b,2,none⟩=some a2∧w.cell? ⟨b,3,none⟩=some a3∧w.cell? ⟨b,4,none⟩=some a4:=⟨h.cell rfl,h.cell rfl,h.cell rfl,h.cell rfl,h.cell rfl⟩
theorem Blk.f5 {w:World} {b:Nat} {cs:List Value} {e:TypeId} (h:Blk w b cs e):w.frozen? ⟨b,0,none⟩=false∧w.frozen? ⟨b,1,none⟩=false∧w.frozen? ⟨b,2,none⟩=false∧w.frozen? ⟨b,3,none⟩=false∧w.frozen? ⟨b,4,none⟩=false:=⟨h.free 0,h.free 1,h.free 2,h.free 3,h.free 4⟩
theorem Blk.c6 {w:World} {b:Nat} {a0 a1 a2 a3 a4 a5:Value} {l:List Value} {e:TypeId} (h:Blk w b (a0 :: a1 :: a2 :: a3 :: a4 :: a5 :: l) e):w.cell? ⟨b,0,none⟩=some a0∧w.cell? ⟨b,1,none⟩=some a1∧w.cell? ⟨b,2,none⟩=some a2∧w.cell? ⟨b,3,none⟩=some a3∧w.cell? ⟨b,4,none⟩=some a4∧w.cell? ⟨b,5,none⟩=some a5:=⟨h.cell rfl,h.cell rfl,h.cell rfl,h.cell rfl,h.cell rfl,h.cell rfl⟩
theorem Blk.f6 {w:World} {b:Nat} {cs:List Value} {e:TypeId} (h:Blk w b cs e):w.frozen? ⟨b,0,none⟩=false∧w.frozen? ⟨b,1,none⟩=false∧w.frozen? ⟨b,2,none⟩=false∧w.frozen? ⟨b,3,none⟩=false∧w.frozen? ⟨b,4,none⟩=false∧w.frozen? ⟨b,5,none⟩=false:=⟨h.free 0,h.free 1,h.free 2,h.free 3,h.free 4,h.free 5⟩
theorem Blk.c7 {w:World} {b:Nat} {a0 a1 a2 a3 a4 a5 a6:Value} {l:List Value} {e:TypeId} (h:Blk w b (a0 :: a1 :: a2 :: a3 :: a4 :: a5 :: a6 :: l) e):w.cell? ⟨b,0,none⟩=some a0∧w.cell? ⟨b,1,none⟩=some a1∧w.cell? ⟨b,2,none⟩=some a2∧w.cell? ⟨b,3,none⟩=some a3∧w.cell? ⟨b,4,none⟩=some a4∧w.cell? ⟨b,5,none⟩=some a5∧w.cell? ⟨b,6,none⟩=some a6:=⟨h.cell rfl,h.cell rfl,h.cell rfl,h.cell rfl,h.cell rfl,h.cell rfl,h.cell rfl⟩
theorem Blk.f7 {w:World} {b:Nat} {cs:List Value} {e:TypeId} (h:Blk w b cs e):w.frozen? ⟨b,0,none⟩=false∧w.frozen? ⟨b,1,none⟩=false∧w.frozen? ⟨b,2,none⟩=false∧w.frozen? ⟨b,3,none⟩=false∧w.frozen? ⟨b,4,none⟩=false∧w.frozen? ⟨b,5,none⟩=false∧w.frozen? ⟨b,6,none⟩=false:=⟨h.free 0,h.free 1,h.free 2,h.free 3,h.free 4,h.free 5,h.free 6⟩
theorem Blk.c8 {w:World} {b:Nat} {a0 a1 a2 a3 a4 a5 a6 a7:Value} {l:List Value} {e:TypeId} (h:Blk w b (a0 :: a1 :: a2 :: a3 :: a4 :: a5 :: a6 :: a7 :: l) e):w.cell? ⟨b,0,none⟩=some a0∧w.cell? ⟨b,1,none⟩=some a1∧w.cell? ⟨b,2,none⟩=some a2∧w.cell? ⟨b,3,none⟩=some a3∧w.cell? ⟨b,4,none⟩=some a4∧w.cell? ⟨b,5,none⟩=some a5∧w.cell? ⟨b,6,none⟩=some a6∧w.cell? ⟨b,7,none⟩=some a7:=⟨h.cell rfl,h.cell rfl,h.cell rfl,h.cell rfl,h.cell rfl,h.cell rfl,h.cell rfl,h.cell rfl⟩
theorem Blk.f8 {w:World} {b:Nat} {cs:List Value} {e:TypeId} (h:Blk w b cs e):w.frozen? ⟨b,0,none⟩=false∧w.frozen? ⟨b,1,none⟩=false∧w.frozen? ⟨b,2,none⟩=false∧w.frozen? ⟨b,3,none⟩=false∧w.frozen? ⟨b,4,none⟩=false∧w.frozen? ⟨b,5,none⟩=false∧w.frozen? ⟨b,6,none⟩=false∧w.frozen? ⟨b,7,none⟩=false:=⟨h.free 0,h.free 1,h.free 2,h.free 3,h.free 4,h.free 5,h.free 6,h.free 7⟩
theorem Blk.c9 {w:World} {b:Nat} {a0 a1 a2 a3 a4 a5 a6 a7 a8:Value} {l:List Value} {e:TypeId} (h:Blk w b (a0 :: a1 :: a2 :: a3 :: a4 :: a5 :: a6 :: a7 :: a8 :: l) e):w.cell? ⟨b,0,none⟩=some a0∧w.cell? ⟨b,1,none⟩=some a1∧w.cell? ⟨b,2,none⟩=some a2∧w.cell? ⟨b,3,none⟩=some a3∧w.cell? ⟨b,4,none⟩=some a4∧w.cell? ⟨b,5,none⟩=some a5∧w.cell? ⟨b,6,none⟩=some a6∧w.cell? ⟨b,7,none⟩=some a7∧w.cell? ⟨b,8,none⟩=some a8:=⟨h.cell rfl,h.cell rfl,h.cell rfl,h.cell rfl,h.cell rfl,h.cell rfl,h.cell rfl,h.cell rfl,h.cell rfl⟩
theorem Blk.f9 {w:World} {b:Nat} {cs:List Value} {e:TypeId} (h:Blk w b cs e):w.frozen? ⟨b,0,none⟩=false∧w.frozen? ⟨b,1,none⟩=false∧w.frozen? ⟨b,2,none⟩=false∧w.frozen? ⟨b,3,none⟩=false∧w.frozen? ⟨b,4,none⟩=false∧w.frozen? ⟨b,5,none⟩=false∧w.frozen? ⟨b,6,none⟩=false∧w.frozen? ⟨b,7,none⟩=false∧w.frozen? ⟨b,8,none⟩=false:=⟨h.free 0,h.free 1,h.free 2,h.free 3,h.free 4,h.free 5,h.free 6,h.free 7,h.free 8⟩
theorem TokS.keep {w w':World} {ao:Option Addr} {m cap:Nat} {l:List Tk} {own:List Nat} (h:TokS w (.slice ao m cap) l) (hc:Chg own w w') (ho:l≠[]→∀ ad,ao=some ad→ad.block ∉ own):TokS w' (.slice ao m cap) l:=by
 obtain ⟨ao',cap',h1,h2,h3⟩:=h
 cases h1
 refine ⟨ao,cap,rfl,h2,fun i t ht=>?_⟩
 obtain ⟨g,off,h4,h5,h6,h7,h8⟩:=h3 i t ht
 have hg:=hc.block g (World.block_lt_of_cell? _ _ h5) (ho (by rintro rfl;simp at ht) _ h4)
 exact ⟨g,off,h4,(World.cell?_of_block (a:=⟨g,off+4*i,none⟩) hg).trans h5,(World.cell?_of_block (a:=⟨g,off+4*i+1,none⟩) hg).trans h6,(World.cell?_of_block (a:=⟨g,off+4*i+2,none⟩) hg).trans h7,(World.cell?_of_block (a:=⟨g,off+4*i+3,none⟩) hg).trans h8⟩
theorem chg_drewNP (w:World) (n:Nat):Chg [] w (w.drewN n):=⟨rfl,rfl,rfl,Nat.le_refl _,fun _ _ _=>rfl⟩
def Pp (w:World) (b:Nat) (l:List Tk) (en:Nat):Prop:=∃ (L:List Tk) (i:Nat) (ao:Option Addr) (cap:Nat),l=L.drop i∧i≤L.length∧L.length≤1000000∧Blk w b [.slice ao L.length cap,.int .i64 (i:Int),.int .i64 (en:Int)] 90∧TokS w (.slice ao L.length cap) L∧(L≠[]→∀ ad,ao=some ad→ad.block < b)
theorem Pp.keep {w w':World} {b en:Nat} {l:List Tk} {own:List Nat} (h:Pp w b l en) (hc:Chg own w w') (ho:∀ k ∈ own,b < k):Pp w' b l en:=by
 obtain ⟨L,i,ao,cap,e1,e2,e3,h1,h2,h3⟩:=h
 refine ⟨L,i,ao,cap,e1,e2,e3,hc.blk h1 (fun hm=>Nat.lt_irrefl _ (ho b hm)),h2.keep hc (fun hl ad ha hm=>?_),h3⟩
 have h4:=h3 hl ad ha
 have h5:=ho _ hm
 omega
theorem Pp.quiet {w w':World} {b en:Nat} {l:List Tk} (h:Pp w b l en) (hc:Chg [] w w'):Pp w' b l en:=h.keep hc (by simp)
theorem Pp.lt {w:World} {b en:Nat} {l:List Tk} (h:Pp w b l en):b < w.heap.size:=by
 obtain ⟨L,i,ao,cap,e1,e2,e3,h1,_⟩:=h
 exact h1.lt
theorem Pp.nil {w:World} {b en:Nat} (h:Pp w b [] en):∃ n ao cap,Blk w b [.slice ao n cap,.int .i64 (n:Int),.int .i64 (en:Int)] 90:=by
 obtain ⟨L,i,ao,cap,e1,e2,e3,h1,_⟩:=h
 have:i=L.length:=by
  have:=congrArg List.length e1
  simp at this
  omega
 subst this
 exact ⟨_,ao,cap,h1⟩
theorem Pp.cons {w:World} {b en:Nat} {t:Tk} {r:List Tk} (h:Pp w b (t :: r) en):∃ (n i g off cap:Nat),i < n∧n≤1000000∧Blk w b [.slice (some ⟨g,off,none⟩) n cap,.int .i64 (i:Int),.int .i64 (en:Int)] 90∧n≤cap∧g < b ∧
 (w.cell? ⟨g,off+i*4,none⟩=some (.int .i64 t.kind)∧w.cell? ⟨g,off+i*4+1,none⟩=some (.string ⟨t.text.toArray⟩)∧w.cell? ⟨g,off+i*4+2,none⟩=some (.int .i64 t.n)∧w.cell? ⟨g,off+i*4+3,none⟩=some (.int .i64 t.at_)) ∧
 ∀ w',Chg [b] w w'→Blk w' b [.slice (some ⟨g,off,none⟩) n cap,.int .i64 ((i:Int)+1),.int .i64 (en:Int)] 90→Pp w' b r en:=by
 obtain ⟨L,i,ao,cap,e1,e2,e3,h1,h2,h3⟩:=h
 have hg:L[i]? = some t:=by
  have:=congrArg (fun x=>x[0]?) e1
  simpa using this.symm
 have hi:i < L.length:=(List.getElem?_eq_some_iff.1 hg).1
 have hr:r=L.drop (i+1):=by
  have:=congrArg List.tail e1
  simpa using this
 obtain ⟨ao',cap',he,h4,h5⟩:=h2
 cases he
 obtain ⟨g,off,rfl,k0,k1,k2,k3⟩:=h5 i t hg
 have hln:L≠[]:=fun e=>by rw[e] at hi;simp at hi
 have hgb:g < b:=h3 hln ⟨g,off,none⟩ rfl
 rw[Nat.mul_comm 4 i] at k0 k1 k2 k3
 refine ⟨L.length,i,g,off,cap,hi,e3,h1,h4,hgb,⟨k0,k1,k2,k3⟩,fun w' hc hb=>⟨L,i+1,some ⟨g,off,none⟩,cap,hr,hi,e3,hb,?_,h3⟩⟩
 exact TokS.keep ⟨_,_,rfl,h4,h5⟩ hc (fun _ ad ha=>by cases ha;show g ∉ [b];simp only[List.mem_cons,List.not_mem_nil,or_false];exact Nat.ne_of_lt hgb)
def flt (e:Nat) (r:List Tk) (en:Nat):Value:=.iface 87 (.agg #[.int .i64 (Rl.code e r:Int),.int .i64 (Rl.place en r:Int)])
def PRes {α:Type} (w:World) (b en:Nat) (V:α→Value→World→Prop) (o:Rl.Out α) (e:Ending) (w':World):Prop :=
 Chg [b] w w'∧match o with
 | .ok a r=>∃ v,e = .returned v∧V a v w'∧Pp w' b r en
 | .bad c r=>e = .panicked [{ v:=flt c r en,recovered:=false }]
theorem fail_spec (w:World) (b en:Nat) (l:List Tk) (HP:Hid (Pp w b l en)) :
 Calls Tryz.prog 27 #[.pointer (some ⟨b,0,none⟩)] w fun x w'=>x = .panicked [{ v:=flt 4 l en,recovered:=false }]∧Chg [] w w':=by
 go_enter Tryz.func27,Tryz.ntmps27
 cases l with
 | nil =>
  obtain ⟨n,ao,cap,hb⟩:=HP.out.nil
  have c0:=hb.cell (i:=0) rfl
  have c1:=hb.cell (i:=1) rfl
  have c2:=hb.cell (i:=2) rfl
  have n0:((n:Int) == (n:Int))=true:=beq_self_eq_true _
  clear hb
  go_upto_region 0 with fail
  go_quiet (fail)
  go_wp2_with fail
  exact ⟨rfl,rfl,chg_drewNP _ _⟩
 | cons t r =>
  obtain ⟨n,i,g,off,cap,hi,hn,hb,hcap,hgb,⟨k0,k1,k2,k3⟩,-⟩:=HP.out.cons
  have c0:=hb.cell (i:=0) rfl
  have c1:=hb.cell (i:=1) rfl
  have n0:((i:Int) == (n:Int))=false:=beq_eq_false_iff_ne.2 (by omega)
  have n1:(0:Int)≤(i:Int):=by omega
  have n2:(i:Int) < (n:Int):=by omega
  have n3:((i:Int)).toNat=i:=by omega
  have HB0:=Lib.hid c0
  have HB1:=Lib.hid c1
  have HK3:=Lib.hid k3
  clear hb
  go_upto_region 0 with fail
  go_quiet (fail)
  go_upto_region 2 with fail
  clear c0 c1 k0 k1 k2 k3
  refine wp_region_held_drew (S:=fun W'=>Chg [] w W') (by kernel_rfl) ?hs0 (fun hHeld=>?_)
  case hs0=>exact (chg_drewNP _ _).drew
  refine tq 0 ?_ (hy:=by intro w9 hSw;skip;go_simp;try with_reducible rfl)
  refine tq 1 ?_ (hy:=by intro w9 hSw;skip;go_simp;try with_reducible rfl)
  refine tq 2 ?_ (hy:=by intro w9 hSw;skip;go_simp;try with_reducible rfl)
  refine tq1 3 (fun w9 hSw=>cell_quiet hSw HB0.out (by simp)) ?_
  refine tq 4 ?_ (hy:=by intro w9 hSw;skip;go_simp;try with_reducible rfl)
  refine tq 5 ?_ (hy:=by intro w9 hSw;skip;go_simp;try with_reducible rfl)
  refine tq 6 ?_ (hy:=by intro w9 hSw;skip;go_simp;try with_reducible rfl)
  refine tq1 7 (fun w9 hSw=>cell_quiet hSw HB1.out (by simp)) ?_
  refine tq 8 ?_ (hy:=by intro w9 hSw;skip;go_simp;try with_reducible rfl)
  refine tq 9 ?_ (hy:=by intro w9 hSw;skip;go_simp;try with_reducible rfl)
  refine tq1 10 (fun w9 hSw=>cell_quiet hSw HK3.out (by simp)) ?_
  refine tq 11 ?_ (hy:=by intro w9 hSw;skip;go_simp;try with_reducible rfl)
  refine tq 12 ?_ (hy:=by intro w9 hSw;skip;go_simp;try with_reducible rfl)
  refine wpAnyH_ready (rs:=[13]) (by kernel_rfl) (by simp) (AllReadyH.cons rfl (fun K hK=>?_) AllReadyH.nil)
  go_simp
  exact ⟨rfl,rfl,hHeld⟩
end Go.Proofs.YtglepipfdmphhaaGreatDoor
namespace Go.Proofs.YtglepipfdmphhaaGreatDoor
set_option linter.unusedVariables false
set_option linter.unusedSimpArgs false
open Go Go.RowKit Go.Shelf
open Lx (Tk)
open Pn (isw must atO)
theorem chg1 {b:Nat} {w w1 w2:World} (h:Chg [b] w w1) (h2:Chg [b] w1 w2):Chg [b] w w2:=h.trans h2 (by simp)
theorem chg01 {b:Nat} {w w1 w2:World} (h:Chg [] w w1) (h2:Chg [b] w1 w2):Chg [b] w w2:=(h.mono (by simp)).trans h2 (by simp)
theorem fail_r {w:World} {b en:Nat} {l:List Tk} (HP:Hid (Pp w b l en)) {R:Ending→World→Prop} (h:∀ w',Hid (Chg [] w w')→R (.panicked [{ v:=flt 4 l en,recovered:=false }]) w') :
 Calls Tryz.prog 27 #[.pointer (some ⟨b,0,none⟩)] w R:=by
 refine (fail_spec w b en l HP).mono ?_
 rintro e w' ⟨rfl,hc⟩
 exact h w' (Lib.hid hc)
theorem at_two {w:World} {b en:Nat} {l:List Tk} (HP:Hid (Pp w b l en)) {R:Ending→World→Prop}
 (hok:∀ (a:Nat) (r:List Tk) (w':World),Hid (atO l = .ok a r)→Hid (Pp w' b r en)→Hid (Chg [b] w w')→R (.returned (.int .i64 (a:Nat))) w')
 (hbad:∀ (c:Nat) (r:List Tk) (w':World),Hid (atO l = .bad c r)→Hid (Chg [b] w w')→R (.panicked [{ v:=flt c r en,recovered:=false }]) w') :
 Calls Tryz.prog 45 #[.pointer (some ⟨b,0,none⟩)] w R:=by
 cases l with
 | nil =>
  refine (show Calls Tryz.prog 45 #[.pointer (some ⟨b,0,none⟩)] w (fun e w'=>e = .panicked [{ v:=flt 4 [] en,recovered:=false }]∧Chg [] w w') from ?_).mono (fun e w' hx=>by obtain ⟨rfl,h2⟩:=hx;exact hbad 4 [] w' (Lib.hid rfl) (Lib.hid (chg01 h2 (Chg.refl _ _))))
  clear hok hbad
  go_enter Tryz.func45,Tryz.ntmps45
  obtain ⟨n,ao,cap,hb⟩:=HP.out.nil
  have c0:=hb.cell (i:=0) rfl
  have c1:=hb.cell (i:=1) rfl
  have n0:((n:Int) == (n:Int))=true:=beq_self_eq_true _
  clear hb
  go_upto_region 1 with fail
  go_quiet (fail)
  go_wp2_with fail
  refine fail_r (Lib.hid (HP.out.quiet (chg_drewNP _ _))) (fun w' HC=>?_)
  go_wp2_with fail
  exact ⟨rfl,rfl,(chg_drewNP _ _).trans HC.out (by simp)⟩
 | cons t r =>
  refine (show Calls Tryz.prog 45 #[.pointer (some ⟨b,0,none⟩)] w (fun e w'=>e = .returned (.int .i64 (t.at_:Nat))∧Chg [] w w') from ?_).mono (fun e w' hx=>by obtain ⟨rfl,h2⟩:=hx;exact hok t.at_ (t :: r) w' (Lib.hid rfl) (Lib.hid (HP.out.quiet h2)) (Lib.hid (chg01 h2 (Chg.refl _ _))))
  clear hok hbad
  go_enter Tryz.func45,Tryz.ntmps45
  obtain ⟨n,i,g,off,cap,hi,hn,hb,hcap,hgb,⟨k0,k1,k2,k3⟩,-⟩:=HP.out.cons
  have c0:=hb.cell (i:=0) rfl
  have c1:=hb.cell (i:=1) rfl
  have n0:((i:Int) == (n:Int))=false:=beq_eq_false_iff_ne.2 (by omega)
  have n1:(0:Int)≤(i:Int):=by omega
  have n2:(i:Int) < (n:Int):=by omega
  have n3:((i:Int)).toNat=i:=by omega
  clear hb
  go_upto_region 1 with fail
  go_quiet (fail)
  go_upto_region 3 with fail
  go_quiet (fail)
  go_wp2_with fail
  go_ret
  exact ⟨rfl,rfl,rfl,rfl,Nat.le_refl _,fun _ _ _=>rfl⟩
theorem is_r {w:World} {b en:Nat} {l:List Tk} (HP:Hid (Pp w b l en)) (x:Bytes) {R:Ending→World→Prop}
 (h:∀ (bo:Bool) (r:List Tk) (w':World),Hid (isw x l=bo∧(if bo=true then l.tail else l)=r)→Hid (Pp w' b r en)→Hid (Chg [b] w w')→R (.returned (.bool bo)) w') :
 Calls Tryz.prog 25 #[.pointer (some ⟨b,0,none⟩),.string ⟨x.toArray⟩] w R:=by
 cases l with
 | nil =>
  refine (show Calls Tryz.prog 25 #[.pointer (some ⟨b,0,none⟩),.string ⟨x.toArray⟩] w (fun e w'=>e = .returned (.bool false)∧Chg [] w w') from ?_).mono (fun e w' hx=>by obtain ⟨rfl,h2⟩:=hx;exact h false [] w' (Lib.hid ⟨rfl,rfl⟩) (Lib.hid (HP.out.quiet h2)) (Lib.hid (chg01 h2 (Chg.refl _ _))))
  clear h
  go_enter Tryz.func25,Tryz.ntmps25
  obtain ⟨n,ao,cap,hb⟩:=HP.out.nil
  have c0:=hb.cell (i:=0) rfl
  have c1:=hb.cell (i:=1) rfl
  have n0:((n:Int) == (n:Int))=true:=beq_self_eq_true _
  clear hb
  go_upto_region 1 with fail
  go_quiet (fail)
  go_wp2_with fail
  go_ret
  exact ⟨rfl,chg_drewNP _ _⟩
 | cons t r =>
  obtain ⟨n,i,g,off,cap,hi,hn,hb,hcap,hgb,⟨k0,k1,k2,k3⟩,hstep⟩:=HP.out.cons
  have HB:=Lib.hid hb
  have HST:=Lib.hid hstep
  have c0:=hb.cell (i:=0) rfl
  have c1:=hb.cell (i:=1) rfl
  have n0:((i:Int) == (n:Int))=false:=beq_eq_false_iff_ne.2 (by omega)
  have n1:(0:Int)≤(i:Int):=by omega
  have n2:(i:Int) < (n:Int):=by omega
  have n3:((i:Int)).toNat=i:=by omega
  clear hb hstep
  by_cases hx:isw x (t :: r)=true
  · refine (show Calls Tryz.prog 25 #[.pointer (some ⟨b,0,none⟩),.string ⟨x.toArray⟩] w (fun e w'=>e = .returned (.bool true)∧Pp w' b r en∧Chg [b] w w') from ?_).mono (fun e w' hx'=>by obtain ⟨rfl,h2,h3⟩:=hx';exact h true r w' (Lib.hid ⟨hx,rfl⟩) (Lib.hid h2) (Lib.hid h3))
    clear h
    have hk:t.kind≠2∧t.text=x:=by
     unfold isw at hx
     simpa using hx
    have m0:((t.kind:Int) == 2)=false:=beq_eq_false_iff_ne.2 (by have:=hk.1;omega)
    have m1:(t.text == x)=true:=beq_iff_eq.2 hk.2
    have m2:(t.text != x)=false:=by simp[hk.2]
    clear hk hx
    have w0:=HB.out.free 1
    go_enter Tryz.func25,Tryz.ntmps25
    go_upto_region 1 with fail
    go_quiet (fail)
    go_wp2_with fail
    go_ret
    have hc:Chg [b] w ((w.drewN nq).setCell ⟨b,1,none⟩ (.int .i64 ((i:Int)+1))):=(chg01 (chg_drewNP w nq) (Chg.refl _ _)).setCell _ _ (.inl (by simp))
    exact ⟨rfl,HST.out _ hc (((chg_drewNP w nq).blk HB.out (by simp)).set 1 _),hc⟩
  refine (show Calls Tryz.prog 25 #[.pointer (some ⟨b,0,none⟩),.string ⟨x.toArray⟩] w (fun e w'=>e = .returned (.bool false)∧Chg [] w w') from ?_).mono (fun e w' hx'=>by obtain ⟨rfl,h2⟩:=hx';exact h false (t :: r) w' (Lib.hid ⟨by simpa using hx,rfl⟩) (Lib.hid (HP.out.quiet h2)) (Lib.hid (chg01 h2 (Chg.refl _ _))))
  clear h
  have hk:¬ (t.kind≠2∧t.text=x):=by
   unfold isw at hx
   simpa using hx
  clear hx
  go_enter Tryz.func25,Tryz.ntmps25
  by_cases h2:t.kind=2
  · have m0:((t.kind:Int) == 2)=true:=by rw[h2];rfl
    clear hk h2
    go_upto_region 1 with fail
    go_quiet (fail)
    go_wp2_with fail
    go_ret
    exact ⟨rfl,chg_drewNP _ _⟩
  have m0:((t.kind:Int) == 2)=false:=beq_eq_false_iff_ne.2 (by omega)
  have h3:t.text≠x:=fun e=>hk ⟨h2,e⟩
  have m1:(t.text == x)=false:=beq_eq_false_iff_ne.2 h3
  have m2:(t.text != x)=true:=by simp[h3]
  clear hk h2 h3
  go_upto_region 1 with fail
  go_quiet (fail)
  go_wp2_with fail
  go_ret
  exact ⟨rfl,chg_drewNP _ _⟩
theorem must_two {w:World} {b en:Nat} {l:List Tk} (HP:Hid (Pp w b l en)) (x:Bytes) {R:Ending→World→Prop}
 (hok:∀ (r:List Tk) (w':World),Hid (must x l = .ok () r)→Hid (Pp w' b r en)→Hid (Chg [b] w w')→R (.returned (.tuple #[])) w')
 (hbad:∀ (c:Nat) (r:List Tk) (w':World),Hid (must x l = .bad c r)→Hid (Chg [b] w w')→R (.panicked [{ v:=flt c r en,recovered:=false }]) w') :
 Calls Tryz.prog 22 #[.pointer (some ⟨b,0,none⟩),.string ⟨x.toArray⟩] w R:=by
 refine (show Calls Tryz.prog 22 #[.pointer (some ⟨b,0,none⟩),.string ⟨x.toArray⟩] w (fun e w'=>(∃ r,e = .returned (.tuple #[])∧must x l = .ok () r∧Pp w' b r en∧Chg [b] w w')∨(∃ c r,e = .panicked [{ v:=flt c r en,recovered:=false }]∧must x l = .bad c r∧Chg [b] w w')) from ?_).mono (fun e w' hx=>by
  rcases hx with ⟨r,rfl,h1,h2,h3⟩|⟨c,r,rfl,h1,h2⟩
  · exact hok r w' (Lib.hid h1) (Lib.hid h2) (Lib.hid h3)
  exact hbad c r w' (Lib.hid h1) (Lib.hid h2))
 clear hok hbad
 go_enter Tryz.func22,Tryz.ntmps22
 go_wp2_with fail
 refine is_r HP x (fun bo r w1 HB HP1 HC1=>?_)
 cases bo with
 | true =>
  go_wp2_with fail
  refine bodyPost_end (results_none rfl _ _ _) rfl ?_
  exact .inl ⟨r,rfl,by unfold must;rw[if_pos HB.out.1];exact congrArg _ HB.out.2,HP1.out,HC1.out⟩
 | false =>
  have hr:r=l:=HB.out.2.symm
  have HPl:Hid (Pp w1 b l en):=Lib.hid (by rw[← hr];exact HP1.out)
  clear hr
  go_wp2_with fail
  refine fail_r HPl (fun w' HC=>?_)
  go_wp2_with fail
  exact ⟨rfl,.inr ⟨4,l,rfl,by unfold must;rw[if_neg (by rw[HB.out.1];simp)],HC1.out.trans HC.out (by simp)⟩⟩
end Go.Proofs.YtglepipfdmphhaaGreatDoor
namespace Go.Proofs.YtglepipfdmphhaaGreatDoor
set_option linter.unusedVariables false
set_option linter.unusedSimpArgs false
open Go Go.RowKit Go.Shelf
open Lx (Tk)
theorem nxt_bad {k:Nat} {x:Option Bytes} {l:List Tk} (h:Rl.is k x l=false):Rl.nxt k x l = .bad 4 l:=by
 cases l with
 | nil=>rfl
 | cons t r =>
  show (if Rl.is k x (t :: r)=true then Rl.Out.ok t r else Rl.Out.bad 4 (t :: r))=_
  rw[h]
  rfl
theorem take_two {w:World} {b en:Nat} {l:List Tk} (HP:Hid (Pp w b l en)) (k:Nat) {R:Ending→World→Prop}
 (hok:∀ (t:Tk) (r:List Tk) (w':World),Hid (Rl.nxt k none l = .ok t r)→Hid (Pp w' b r en)→Hid (Chg [b] w w')→R (.returned (.agg #[.int .i64 (t.kind:Nat),.string ⟨t.text.toArray⟩,.int .i64 (t.n:Nat),.int .i64 (t.at_:Nat)])) w')
 (hbad:∀ (c:Nat) (r:List Tk) (w':World),Hid (Rl.nxt k none l = .bad c r)→Hid (Chg [b] w w')→R (.panicked [{ v:=flt c r en,recovered:=false }]) w') :
 Calls Tryz.prog 23 #[.pointer (some ⟨b,0,none⟩),.int .i64 (k:Int)] w R:=by
 refine (show Calls Tryz.prog 23 #[.pointer (some ⟨b,0,none⟩),.int .i64 (k:Int)] w (fun e w'=>(∃ t r,e = .returned (.agg #[.int .i64 (t.kind:Nat),.string ⟨t.text.toArray⟩,.int .i64 (t.n:Nat),.int .i64 (t.at_:Nat)])∧Rl.nxt k none l = .ok t r∧Pp w' b r en∧Chg [b] w w')∨(∃ c r,e = .panicked [{ v:=flt c r en,recovered:=false }]∧Rl.nxt k none l = .bad c r∧Chg [b] w w')) from ?_).mono (fun e w' hx=>by
  rcases hx with ⟨t,r,rfl,h1,h2,h3⟩|⟨c,r,rfl,h1,h2⟩
  · exact hok t r w' (Lib.hid h1) (Lib.hid h2) (Lib.hid h3)
  exact hbad c r w' (Lib.hid h1) (Lib.hid h2))
 clear hok hbad
 have HBW:Hid (b < w.heap.size):=Lib.hid HP.out.lt
 go_enter Tryz.func23,Tryz.ntmps23
 go_upto_region 1 with fail
 obtain ⟨W1,hW⟩:∃ W,W=(w.alloc (.cells #[.int .i64 0,.string ⟨#[]⟩,.int .i64 0,.int .i64 0] 93)):=⟨_,rfl⟩
 rw[← hW]
 obtain ⟨T4,hT4⟩:∃ T,T=w.heap.size:=⟨_,rfl⟩
 try rw[← hT4]
 have OT4:Hid (w.heap.size≤T4):=Lib.hid (by rw[hT4];exact Nat.le_refl _)
 have HT4_1:Hid (Blk W1 T4 [.int .i64 0,.string ⟨#[]⟩,.int .i64 0,.int .i64 0] 93):=Lib.hid (by
  have h1:=Blk.new w [.int .i64 0,.string ⟨#[]⟩,.int .i64 0,.int .i64 0] 93
  have h2:w.heap.size=T4:=by simp[hT4]
  rw[h2] at h1
  rw[hW]
  exact h1)
 have C1:Hid (Chg [] w W1):=Lib.hid (by rw[hW];exact ((Chg.refl [] w).alloc _))
 clear hW hT4
 have HP1:Hid (Pp W1 b l en):=Lib.hid (HP.out.quiet C1.out)
 cases l with
 | nil =>
  obtain ⟨n,ao,cap,hb⟩:=HP1.out.nil
  have c0:=hb.cell (i:=0) rfl
  have c1:=hb.cell (i:=1) rfl
  have n0:((n:Int) == (n:Int))=true:=beq_self_eq_true _
  have HI:Hid (Rl.is k none []=false):=Lib.hid rfl
  clear hb
  go_quiet (fail)
  go_wp2_with fail
  refine fail_r (Lib.hid (HP1.out.quiet (chg_drewNP _ _))) (fun w' HC=>?_)
  go_wp2_with fail
  exact ⟨rfl,.inr ⟨4,[],rfl,nxt_bad HI.out,chg01 C1.out (chg01 ((chg_drewNP _ _).trans HC.out (by simp)) (Chg.refl _ _))⟩⟩
 | cons t r =>
  obtain ⟨n,i,g,off,cap,hi,hn,hb,hcap,hgb,⟨k0,k1,k2,k3⟩,hstep⟩:=HP1.out.cons
  have HB:=Lib.hid hb
  have HST:=Lib.hid hstep
  have c0:=hb.cell (i:=0) rfl
  have c1:=hb.cell (i:=1) rfl
  have w1:=hb.free 1
  have n0:((i:Int) == (n:Int))=false:=beq_eq_false_iff_ne.2 (by omega)
  have n1:(0:Int)≤(i:Int):=by omega
  have n2:(i:Int) < (n:Int):=by omega
  have n3:((i:Int)).toNat=i:=by omega
  have HK0:=Lib.hid k0
  have HK1:=Lib.hid k1
  have HK2:=Lib.hid k2
  have HK3:=Lib.hid k3
  clear hb hstep
  by_cases hk:t.kind=k
  · skip
    have m0:((t.kind:Int) != (k:Int))=false:=by simp[hk]
    have HI:Hid (Rl.is k none (t :: r)=true):=Lib.hid (by simp[Rl.is,hk])
    clear hk
    go_quiet (fail)
    go_upto_region 4 with fail
    clear c0 c1 w1 k0 k1 k2 k3 m0
    obtain ⟨W2,hW⟩:∃ X,X=(W1.drewN nq).setCell ⟨b,1,none⟩ (.int .i64 ((i:Int)+1)):=⟨_,rfl⟩
    rw[← hW]
    have HC2:Hid (Chg [b] W1 W2):=Lib.hid (by rw[hW];exact (chg01 (chg_drewNP _ nq) (Chg.refl _ _)).setCell _ _ (.inl (by simp)))
    have HB2:Hid (Blk W2 b [.slice (some ⟨g,off,none⟩) n cap,.int .i64 ((i:Int)+1),.int .i64 (en:Int)] 90):=Lib.hid (by rw[hW];exact ((chg_drewNP _ nq).blk HB.out (by simp)).set 1 _)
    have HP2:Hid (Pp W2 b r en):=Lib.hid (HST.out _ HC2.out HB2.out)
    clear hW
    have NT4_b:T4≠b:=by have:=HBW.out;have:=OT4.out;omega
    have Ngb:g≠b:=Nat.ne_of_lt hgb
    have NgT:g≠T4:=by have:=HBW.out;have:=OT4.out;omega
    have NbT:b≠T4:=NT4_b.symm
    have HT4:Hid (Blk W2 T4 [.int .i64 0,.string ⟨#[]⟩,.int .i64 0,.int .i64 0] 93):=Lib.hid (HC2.out.blk HT4_1.out (by simp[NT4_b]))
    have HJ0:=Lib.hid (cell_quiet HC2.out HK0.out (by simp[Ngb]))
    have HJ1:=Lib.hid (cell_quiet HC2.out HK1.out (by simp[Ngb]))
    have HJ2:=Lib.hid (cell_quiet HC2.out HK2.out (by simp[Ngb]))
    have HJ3:=Lib.hid (cell_quiet HC2.out HK3.out (by simp[Ngb]))
    have Z0:=Lib.hid (HB2.out.cell (i:=0) rfl)
    have Z1:=Lib.hid (HB2.out.cell (i:=1) rfl)
    have qs:IntKind.i64.wrap (i:Int)=(i:Int):=IntWalk.i64_in _ (by omega)
    refine wp_region_held_drew (S:=fun W'=>Chg [T4] W2 W') (by kernel_rfl) (Chg.refl _ _).drew (fun hHeld=>?_)
    refine tq 0 ?_ (hy:=by intro w9 hSw;skip;go_simp;try with_reducible rfl)
    refine tq 1 ?_ (hy:=by intro w9 hSw;skip;go_simp;try with_reducible rfl)
    refine tq 2 ?_ (hy:=by intro w9 hSw;skip;go_simp;try with_reducible rfl)
    refine tq1 3 (fun w9 hSw=>cell_quiet hSw Z0.out (by simp[NbT])) ?_
    refine tq 4 ?_ (hy:=by intro w9 hSw;skip;go_simp;try with_reducible rfl)
    refine tq 5 ?_ (hy:=by intro w9 hSw;skip;go_simp;try with_reducible rfl)
    refine tq 6 ?_ (hy:=by intro w9 hSw;skip;go_simp;try with_reducible rfl)
    refine tq1 7 (fun w9 hSw=>cell_quiet hSw Z1.out (by simp[NbT])) ?_
    refine tq 8 ?_ (hy:=by intro w9 hSw;skip;go_simp;try with_reducible rfl)
    refine tq 9 ?_ (hy:=by intro w9 hSw;skip;go_simp;try with_reducible rfl)
    refine tq 10 ?_ (hy:=by intro w9 hSw;have e0:=cell_quiet hSw HJ0.out (by simp[NgT]);have e1:=cell_quiet hSw HJ1.out (by simp[NgT]);have e2:=cell_quiet hSw HJ2.out (by simp[NgT]);have e3:=cell_quiet hSw HJ3.out (by simp[NgT]);go_simp;try with_reducible rfl)
    obtain ⟨Z,hZ⟩:∃ Z,Z=W2.drew:=⟨_,rfl⟩
    rw[← hZ] at hHeld ⊢
    have HQ:Hid (Blk Z T4 [.int .i64 0,.string ⟨#[]⟩,.int .i64 0,.int .i64 0] 93):=Lib.hid (by rw[hZ];exact HT4.out.drew)
    clear hZ
    refine wpAnyH_ready (rs:=[11]) (by kernel_rfl) (by simp) (AllReadyH.cons rfl (fun K hK=>?_) AllReadyH.nil)
    have x0:=HQ.out.cell (i:=0) rfl
    have xf0:=HQ.out.free 0
    have x1:=HQ.out.cell (i:=1) rfl
    have xf1:=HQ.out.free 1
    have x2:=HQ.out.cell (i:=2) rfl
    have xf2:=HQ.out.free 2
    have x3:=HQ.out.cell (i:=3) rfl
    have xf3:=HQ.out.free 3
    go_simp
    refine kq hK ((((hHeld.setCell _ _ (.inl (by simp))).setCell _ _ (.inl (by simp))).setCell _ _ (.inl (by simp))).setCell _ _ (.inl (by simp))) (fun hHeld=>?_)
    clear x0 xf0 x1 xf1 x2 xf2 x3 xf3
    refine dq ?_
    have HH:=Lib.hid hHeld
    clear hHeld
    go_wp2_with fail
    (try simp only[Exit.inBlock,Exit.then])
    refine bodyPost_ret (results_cell_row rfl _ _ T4 93 #[.int .i64 (t.kind:Nat),.string ⟨t.text.toArray⟩,.int .i64 (t.n:Nat),.int .i64 (t.at_:Nat)] (0,0) _ rfl ((((HQ.out.set 0 (.int .i64 (t.kind:Nat))).set 1 (.string ⟨t.text.toArray⟩)).set 2 (.int .i64 (t.n:Nat))).set 3 (.int .i64 (t.at_:Nat))) Tryz.underlying93 rfl (by kernel_rfl)) rfl ?_
    refine .inl ⟨t,r,rfl,?_,HP2.out.keep HH.out (fun k hk=>by simp only[List.mem_cons,List.not_mem_nil,or_false] at hk;subst hk;have:=HBW.out;have:=OT4.out;omega),?_⟩
    · show (if Rl.is k none (t :: r)=true then Rl.Out.ok t r else Rl.Out.bad 4 (t :: r))=_
      rw[if_pos HI.out]
    exact (chg01 C1.out HC2.out).trans HH.out (fun k hk=>.inr (by simp only[List.mem_cons,List.not_mem_nil,or_false] at hk;subst hk;exact OT4.out))
  have m0:((t.kind:Int) != (k:Int))=true:=bne_iff_ne.2 (by omega)
  have HI:Hid (Rl.is k none (t :: r)=false):=Lib.hid (by simp[Rl.is,hk])
  clear hk w1
  go_quiet (fail)
  go_wp2_with fail
  refine fail_r (Lib.hid (HP1.out.quiet (chg_drewNP _ _))) (fun w' HC=>?_)
  go_wp2_with fail
  exact ⟨rfl,.inr ⟨4,t :: r,rfl,nxt_bad HI.out,chg01 C1.out (chg01 ((chg_drewNP _ _).trans HC.out (by simp)) (Chg.refl _ _))⟩⟩
end Go.Proofs.YtglepipfdmphhaaGreatDoor
namespace Go.Proofs.YtglepipfdmphhaaGreatDoor
set_option linter.unusedVariables false
set_option linter.unusedSimpArgs false
open Go Go.RowKit Go.Shelf
open Lx (Tk)
namespace Pn
open Rl (Out)
def nums:Nat→List Tk→Out (List Nat)
 | 0,l=>.ok [] l
 | n+1,l=>(nums n l).bind fun ns r=>(num r).bind fun x q=>.ok (ns++[x]) q
def setL:List Value→List Nat→List Nat→List Value
 | cs,o :: os,n :: ns=>setL (cs.set o (.int .i64 (n:Nat))) os ns
 | cs,_,_=>cs
theorem setL_nil (cs:List Value) (os:List Nat):setL cs os []=cs:=by cases os <;> rfl
theorem setL_snoc (o n:Nat):∀ (os ns:List Nat) (cs:List Value),os.length=ns.length→setL cs (os++[o]) (ns++[n])=(setL cs os ns).set o (.int .i64 (n:Nat))
 | [],[],cs,_=>rfl
 | [],_ :: _,cs,h=>by simp at h
 | _ :: _,[],cs,h=>by simp at h
 | p :: os,m :: ns,cs,h=>setL_snoc o n os ns (cs.set p (.int .i64 (m:Nat))) (by simpa using h)
theorem setL_len:∀ (os ns:List Nat) (cs:List Value),(setL cs os ns).length=cs.length
 | [],ns,cs=>by cases ns <;> rfl
 | _ :: _,[],cs=>rfl
 | o :: os,n :: ns,cs=>by
  show (setL (cs.set o _) os ns).length=_
  rw[setL_len os ns]
  simp
theorem nums_len:∀ (n:Nat) (l:List Tk) (ns:List Nat) (r:List Tk),nums n l = .ok ns r→ns.length=n
 | 0,l,ns,r,h=>by
  simp only[nums,Out.ok.injEq] at h
  rw[← h.1]
  rfl
 | n+1,l,ns,r,h=>by
  unfold nums at h
  cases h1:nums n l with
  | bad c q=>rw[h1] at h;cases h
  | ok ms q =>
   rw[h1] at h
   cases h2:num q with
   | bad c q'=>simp only[Out.bind,h2] at h;cases h
   | ok x q' =>
    simp only[Out.bind,h2,Out.ok.injEq] at h
    rw[← h.1,List.length_append,nums_len n l ms q h1]
    rfl
end Pn
open Pn (nums num setL)
theorem field_n (a b c d:Value) (w:World):(Instr.field 93 (.agg #[a,b,c,d]) 2).run Tryz.prog w = .ok c w:=by kernel_rfl
theorem field_text (a b c d:Value) (w:World):(Instr.field 93 (.agg #[a,b,c,d]) 1).run Tryz.prog w = .ok b w:=by kernel_rfl
theorem numbers_two {w:World} {b en:Nat} {l:List Tk} (HP:Hid (Pp w b l en)) {g D:Nat} {T:TypeId} {cs:List Value} (offs:List Nat) (HG:Hid (Blk w g (offs.map (fun o=>.pointer (some ⟨D,o,none⟩))) 96)) (HD:Hid (Blk w D cs T))
 (HO:Hid (∀ o ∈ offs,o < cs.length)) (HN:Hid (b < D∧g≠b∧g≠D∧offs.length≤4)) {R:Ending→World→Prop}
 (hok:∀ (ns:List Nat) (r:List Tk) (w':World),Hid (nums offs.length l = .ok ns r)→Hid (ns.length=offs.length)→Hid (Pp w' b r en)→Hid (Blk w' D (setL cs offs ns) T)→Hid (Chg [b,D] w w')→R (.returned (.tuple #[])) w')
 (hbad:∀ (c:Nat) (r:List Tk) (w':World),Hid (nums offs.length l = .bad c r)→Hid (Chg [b,D] w w')→R (.panicked [{ v:=flt c r en,recovered:=false }]) w') :
 Calls Tryz.prog 24 #[.pointer (some ⟨b,0,none⟩),.slice (some ⟨g,0,none⟩) offs.length offs.length] w R:=by
 refine (show Calls Tryz.prog 24 #[.pointer (some ⟨b,0,none⟩),.slice (some ⟨g,0,none⟩) offs.length offs.length] w (fun e w'=>(∃ ns r,e = .returned (.tuple #[])∧nums offs.length l = .ok ns r∧Pp w' b r en∧Blk w' D (setL cs offs ns) T∧Chg [b,D] w w')∨(∃ c r,e = .panicked [{ v:=flt c r en,recovered:=false }]∧nums offs.length l = .bad c r∧Chg [b,D] w w')) from ?_).mono (fun e w' hx=>by
  rcases hx with ⟨ns,r,rfl,h1,h2,h3,h4⟩|⟨c,r,rfl,h1,h2⟩
  · exact hok ns r w' (Lib.hid h1) (Lib.hid (Pn.nums_len _ _ _ _ h1)) (Lib.hid h2) (Lib.hid h3) (Lib.hid h4)
  exact hbad c r w' (Lib.hid h1) (Lib.hid h2))
 clear hok hbad
 obtain ⟨n,hn⟩:∃ n,offs.length=n:=⟨_,rfl⟩
 have HNN:=Lib.hid hn
 rw[hn]
 have hn4:n≤4:=by have:=HN.out.2.2.2;omega
 clear hn
 go_enter Tryz.func24,Tryz.ntmps24
 go_wp2_with fail
 go_loopw [8] (fun i wr=>∃ (j:Nat) (ns:List Nat) (r:List Tk),i = .int .i64 (j:Int)∧j≤n∧Hid (nums j l = .ok ns r∧ns.length=j)∧Hid (Pp wr b r en)∧Hid (Blk wr D (setL cs (offs.take j) ns) T)∧Hid (Chg [b,D] w wr)) (fun i _=>n - (intOf i).toNat)
 case atStart=>exact ⟨0,[],l,rfl,Nat.zero_le _,Lib.hid ⟨rfl,rfl⟩,HP,Lib.hid (by rw[Pn.setL_nil];exact HD.out),Lib.hid (Chg.refl _ _)⟩
 case round =>
  obtain ⟨j,ns,r,rfl,hj,HNS,HPr,HDr,HC⟩:=hrel
  by_cases hlt:j < n
  · obtain ⟨o,ho⟩:∃ o,offs[j]? = some o:=⟨offs[j]'(by rw[HNN.out];exact hlt),by simp⟩
    have HOJ:=Lib.hid ho
    have hg:wr.cell? ⟨g,j,none⟩=some (.pointer (some ⟨D,o,none⟩)):=(HC.out.blk HG.out (by simp;exact ⟨HN.out.2.1,HN.out.2.2.1⟩)).cell (by rw[List.getElem?_map,ho];rfl)
    have hol:o < (setL cs (offs.take j) ns).length:=by rw[Pn.setL_len];exact HO.out o (List.mem_of_getElem? ho)
    obtain ⟨vo,hvo⟩:∃ v,(setL cs (offs.take j) ns)[o]? = some v:=⟨(setL cs (offs.take j) ns)[o],List.getElem?_eq_getElem hol⟩
    have HVO:=Lib.hid hvo
    clear ho hol hvo
    have q0:(0:Int)≤(j:Int):=by omega
    have q1:(j:Int) < (n:Int):=by omega
    have q2:((j:Int)).toNat=j:=by omega
    go_wp2_with fail
    refine take_two HPr 2 (fun t q w1 HT HP1 HC1=>?_) (fun c q w1 HT HC1=>?_)
    · have hD1:Hid (Blk w1 D (setL cs (offs.take j) ns) T):=Lib.hid (HC1.out.blk HDr.out (by have:=HN.out.1;simp;omega))
      have u0:=hD1.out.cell HVO.out
      have u1:=hD1.out.free o
      have hf:=fun W=>field_n (.int .i64 (t.kind:Nat)) (.string ⟨t.text.toArray⟩) (.int .i64 (t.n:Nat)) (.int .i64 (t.at_:Nat)) W
      go_wp2_with fail
      refine ⟨?_,by simp[intOf];omega⟩
      have hc:Chg [b,D] wr (w1.setCell ⟨D,o,none⟩ (.int .i64 (t.n:Nat))):=(HC1.out.mono (by simp)).setCell _ _ (.inl (by simp))
      have HNS1:Hid (nums (j+1) l = .ok (ns++[t.n]) q∧(ns++[t.n]).length=j+1):=Lib.hid ⟨by unfold nums;rw[HNS.out.1];simp only[Rl.Out.bind];unfold num;rw[HT.out];rfl,by rw[List.length_append,HNS.out.2];rfl⟩
      have HP2:Hid (Pp (w1.setCell ⟨D,o,none⟩ (.int .i64 (t.n:Nat))) b q en):=Lib.hid (HP1.out.keep (own:=[D]) ((Chg.refl _ _).setCell _ _ (.inl (by simp))) (fun k hk=>by simp only[List.mem_cons,List.not_mem_nil,or_false] at hk;subst hk;exact HN.out.1))
      have HD2:Hid (Blk (w1.setCell ⟨D,o,none⟩ (.int .i64 (t.n:Nat))) D (setL cs (offs.take (j+1)) (ns++[t.n])) T):=Lib.hid (by
       have e:offs.take (j+1)=offs.take j++[o]:=by rw[List.take_add_one,HOJ.out];rfl
       rw[e,Pn.setL_snoc _ _ _ _ _ (by rw[List.length_take,HNN.out,HNS.out.2];omega)]
       exact hD1.out.set o _)
      have HC2:Hid (Chg [b,D] w (w1.setCell ⟨D,o,none⟩ (.int .i64 (t.n:Nat)))):=Lib.hid (HC.out.trans hc (fun k hk=>.inl hk))
      have hjj:Value.int IntKind.i64 ((j:Int)+1) = .int .i64 ((j+1:Nat):Int):=rfl
      first|exact ⟨j+1,ns++[t.n],q,hjj,by omega,HNS1,HP2,HD2,HC2⟩|((repeat apply Exists.intro);exact ⟨⟨j+1,ns++[t.n],q,hjj,by omega,HNS1,HP2,HD2,HC2⟩,rfl⟩)
    have hbadn:nums n l = .bad c q:=by
     have h1:nums (j+1) l = .bad c q:=by
      unfold nums
      rw[HNS.out.1]
      simp only[Rl.Out.bind]
      unfold num
      rw[HT.out]
      rfl
     have h2:∀ d,nums (j+1+d) l = .bad c q:=by
      intro d
      induction d with
      | zero=>exact h1
      | succ d ih =>
       show (nums (j+1+d) l).bind _=_
       rw[ih]
       rfl
     have:=h2 (n - (j+1))
     rw[show j+1+(n - (j+1))=n by omega] at this
     exact this
    have HBN:=Lib.hid hbadn
    clear hbadn
    go_wp2_with fail
    have hcf:Chg [b,D] w w1:=HC.out.trans (HC1.out.mono (own1:=[b,D]) (by simp)) (fun k hk=>.inl hk)
    first|exact ⟨rfl,.inr ⟨c,q,rfl,HBN.out,hcf⟩⟩|exact ⟨rfl,.inr ⟨c,q,HBN.out,rfl,hcf⟩⟩
  have q1:¬ (j:Int) < (n:Int):=by omega
  obtain rfl:j=n:=by omega
  go_wp2_with fail
  refine bodyPost_end (results_none rfl _ _ _) rfl ?_
  have hd:=HDr.out
  rw[List.take_of_length_le (by rw[HNN.out];exact Nat.le_refl _)] at hd
  first|exact .inl ⟨ns,r,rfl,HNS.out.1,HPr.out,hd,HC.out⟩|exact .inl ⟨rfl,ns,r,HNS.out.1,HPr.out,hd,HC.out⟩
end Go.Proofs.YtglepipfdmphhaaGreatDoor
namespace Go.Proofs.YtglepipfdmphhaaGreatDoor
set_option linter.unusedVariables false
set_option linter.unusedSimpArgs false
open Go Go.RowKit Go.Shelf
open Lx (Tk)
namespace Pn
open Rl (Out)
theorem nums1_eq (l:List Tk):nums 1 l=(num l).bind fun x r=>.ok [x] r:=rfl
theorem nums2_eq (l:List Tk):nums 2 l=(num2 l).bind fun p r=>.ok [p.1,p.2] r:=by
 unfold nums num2
 rw[nums1_eq]
 cases num l with
 | bad c r=>rfl
 | ok x r =>
  simp only[Out.bind]
  cases num r with
  | bad c q=>rfl
  | ok y q=>rfl
theorem nums4_eq (l:List Tk):nums 4 l=(box l).bind fun p r=>.ok [p.x,p.y,p.x2,p.y2] r:=by
 unfold nums nums box
 rw[nums2_eq]
 unfold num2
 cases num l with
 | bad c r=>rfl
 | ok x r =>
  simp only[Out.bind]
  cases num r with
  | bad c q=>rfl
  | ok y q =>
   simp only
   cases num q with
   | bad c q'=>rfl
   | ok z q' =>
    simp only
    cases num q' with
    | bad c q2=>rfl
    | ok u q2=>rfl
end Pn
open Pn (nums num num2 box setL)
theorem good5 {α β:Type} {O:Rl.Out β} {x:Rl.Out α} {k:α→List Tk→Rl.Out β} {a:α} {r:List Tk} (h:O=x.bind k) (hx:x = .ok a r):O=k a r:=by
 rw[h,hx]
 rfl
theorem bad5 {α β:Type} {O:Rl.Out β} {x:Rl.Out α} {k:α→List Tk→Rl.Out β} {e:Nat} {r:List Tk} (h:O=x.bind k) (hx:x = .bad e r):O = .bad e r:=by
 rw[h,hx]
 rfl
theorem pbad {α:Type} {w w':World} {b en:Nat} {V:α→Value→World→Prop} {O:Rl.Out α} {c:Nat} {r:List Tk} (hc:Chg [b] w w') (h:O = .bad c r):PRes w b en V O (.panicked [{ v:=flt c r en,recovered:=false }]) w':=by
 refine ⟨hc,?_⟩
 rw[h]
theorem pgood {α:Type} {w w':World} {b en:Nat} {V:α→Value→World→Prop} {O:Rl.Out α} {a:α} {r:List Tk} {v:Value} (hc:Chg [b] w w') (h:O = .ok a r) (hv:V a v w') (hp:Pp w' b r en):PRes w b en V O (.returned v) w':=by
 refine ⟨hc,?_⟩
 rw[h]
 exact ⟨v,rfl,hv,hp⟩
theorem pres_two {α:Type} {w w':World} {b en:Nat} {V:α→Value→World→Prop} {O:Rl.Out α} {e:Ending} {R:Ending→World→Prop} (h:PRes w b en V O e w')
 (hok:∀ (a:α) (r:List Tk) (v:Value),Hid (O = .ok a r)→Hid (Pp w' b r en)→Hid (Chg [b] w w')→V a v w'→R (.returned v) w')
 (hbad:∀ (c:Nat) (r:List Tk),Hid (O = .bad c r)→Hid (Chg [b] w w')→R (.panicked [{ v:=flt c r en,recovered:=false }]) w'):R e w':=by
 obtain ⟨hc,h⟩:=h
 cases O with
 | ok a r =>
  obtain ⟨v,rfl,h1,h2⟩:=h
  exact hok a r v (Lib.hid rfl) (Lib.hid h2) (Lib.hid hc) h1
 | bad c r =>
  have h:e = .panicked [{ v:=flt c r en,recovered:=false }]:=h
  rw[h]
  exact hbad c r (Lib.hid rfl) (Lib.hid hc)
theorem num1_two {w:World} {b en:Nat} {l:List Tk} (HP:Hid (Pp w b l en)) {g D o:Nat} {T:TypeId} {cs:List Value} (HG:Hid (Blk w g [.pointer (some ⟨D,o,none⟩)] 96)) (HD:Hid (Blk w D cs T)) (ho:o < cs.length) (HN:Hid (b < D∧g≠b∧g≠D)) {R:Ending→World→Prop}
 (hok:∀ (x:Nat) (r:List Tk) (w':World),Hid (num l = .ok x r)→Hid (Pp w' b r en)→Hid (Blk w' D (cs.set o (.int .i64 (x:Nat))) T)→Hid (Chg [b,D] w w')→R (.returned (.tuple #[])) w')
 (hbad:∀ (c:Nat) (r:List Tk) (w':World),Hid (num l = .bad c r)→Hid (Chg [b,D] w w')→R (.panicked [{ v:=flt c r en,recovered:=false }]) w') :
 Calls Tryz.prog 24 #[.pointer (some ⟨b,0,none⟩),.slice (some ⟨g,0,none⟩) 1 1] w R:=by
 refine numbers_two HP [o] HG HD (Lib.hid (by simp;exact ho)) (Lib.hid ⟨HN.out.1,HN.out.2.1,HN.out.2.2,by simp⟩) (fun ns r w' h1 h2 h3 h4 h5=>?_) (fun c r w' h1 h2=>?_)
 · have h:=h1.out
   rw[show ([o]:List Nat).length=1 from rfl,Pn.nums1_eq] at h
   cases hx:num l with
   | bad c q=>rw[hx] at h;cases h
   | ok x q =>
    rw[hx] at h
    simp only[Rl.Out.bind,Rl.Out.ok.injEq] at h
    obtain ⟨rfl,rfl⟩:=h
    exact hok x q w' (Lib.hid hx) h3 h4 h5
 have h:=h1.out
 rw[show ([o]:List Nat).length=1 from rfl,Pn.nums1_eq] at h
 cases hx:num l with
 | ok x q=>rw[hx] at h;cases h
 | bad c' q =>
  rw[hx] at h
  simp only[Rl.Out.bind,Rl.Out.bad.injEq] at h
  obtain ⟨rfl,rfl⟩:=h
  exact hbad _ _ w' (Lib.hid hx) h2
theorem num2_two {w:World} {b en:Nat} {l:List Tk} (HP:Hid (Pp w b l en)) {g D o p:Nat} {T:TypeId} {cs:List Value} (HG:Hid (Blk w g [.pointer (some ⟨D,o,none⟩),.pointer (some ⟨D,p,none⟩)] 96)) (HD:Hid (Blk w D cs T)) (ho:o < cs.length) (hp:p < cs.length) (HN:Hid (b < D∧g≠b∧g≠D)) {R:Ending→World→Prop}
 (hok:∀ (x y:Nat) (r:List Tk) (w':World),Hid (num2 l = .ok (x,y) r)→Hid (Pp w' b r en)→Hid (Blk w' D ((cs.set o (.int .i64 (x:Nat))).set p (.int .i64 (y:Nat))) T)→Hid (Chg [b,D] w w')→R (.returned (.tuple #[])) w')
 (hbad:∀ (c:Nat) (r:List Tk) (w':World),Hid (num2 l = .bad c r)→Hid (Chg [b,D] w w')→R (.panicked [{ v:=flt c r en,recovered:=false }]) w') :
 Calls Tryz.prog 24 #[.pointer (some ⟨b,0,none⟩),.slice (some ⟨g,0,none⟩) 2 2] w R:=by
 refine numbers_two HP [o,p] HG HD (Lib.hid (by simp;exact ⟨ho,hp⟩)) (Lib.hid ⟨HN.out.1,HN.out.2.1,HN.out.2.2,by simp⟩) (fun ns r w' h1 h2 h3 h4 h5=>?_) (fun c r w' h1 h2=>?_)
 · have h:=h1.out
   rw[show ([o,p]:List Nat).length=2 from rfl,Pn.nums2_eq] at h
   cases hx:num2 l with
   | bad c q=>rw[hx] at h;cases h
   | ok x q =>
    rw[hx] at h
    simp only[Rl.Out.bind,Rl.Out.ok.injEq] at h
    obtain ⟨rfl,rfl⟩:=h
    exact hok x.1 x.2 q w' (Lib.hid hx) h3 h4 h5
 have h:=h1.out
 rw[show ([o,p]:List Nat).length=2 from rfl,Pn.nums2_eq] at h
 cases hx:num2 l with
 | ok x q=>rw[hx] at h;cases h
 | bad c' q =>
  rw[hx] at h
  simp only[Rl.Out.bind,Rl.Out.bad.injEq] at h
  obtain ⟨rfl,rfl⟩:=h
  exact hbad _ _ w' (Lib.hid hx) h2
theorem num4_two {w:World} {b en:Nat} {l:List Tk} (HP:Hid (Pp w b l en)) {g D:Nat} {T:TypeId} {c0 c1 c2 c3:Value} (HG:Hid (Blk w g [.pointer (some ⟨D,0,none⟩),.pointer (some ⟨D,1,none⟩),.pointer (some ⟨D,2,none⟩),.pointer (some ⟨D,3,none⟩)] 96)) (HD:Hid (Blk w D [c0,c1,c2,c3] T)) (HN:Hid (b < D∧g≠b∧g≠D)) {R:Ending→World→Prop}
 (hok:∀ (x:Pn.Bx) (r:List Tk) (w':World),Hid (box l = .ok x r)→Hid (Pp w' b r en)→Hid (Blk w' D [.int .i64 (x.x:Nat),.int .i64 (x.y:Nat),.int .i64 (x.x2:Nat),.int .i64 (x.y2:Nat)] T)→Hid (Chg [b,D] w w')→R (.returned (.tuple #[])) w')
 (hbad:∀ (c:Nat) (r:List Tk) (w':World),Hid (box l = .bad c r)→Hid (Chg [b,D] w w')→R (.panicked [{ v:=flt c r en,recovered:=false }]) w') :
 Calls Tryz.prog 24 #[.pointer (some ⟨b,0,none⟩),.slice (some ⟨g,0,none⟩) 4 4] w R:=by
 refine numbers_two HP [0,1,2,3] HG HD (Lib.hid (by simp)) (Lib.hid ⟨HN.out.1,HN.out.2.1,HN.out.2.2,by simp⟩) (fun ns r w' h1 h2 h3 h4 h5=>?_) (fun c r w' h1 h2=>?_)
 · have h:=h1.out
   rw[show ([0,1,2,3]:List Nat).length=4 from rfl,Pn.nums4_eq] at h
   cases hx:box l with
   | bad c q=>rw[hx] at h;cases h
   | ok x q =>
    rw[hx] at h
    simp only[Rl.Out.bind,Rl.Out.ok.injEq] at h
    obtain ⟨rfl,rfl⟩:=h
    exact hok x q w' (Lib.hid hx) h3 h4 h5
 have h:=h1.out
 rw[show ([0,1,2,3]:List Nat).length=4 from rfl,Pn.nums4_eq] at h
 cases hx:box l with
 | ok x q=>rw[hx] at h;cases h
 | bad c' q =>
  rw[hx] at h
  simp only[Rl.Out.bind,Rl.Out.bad.injEq] at h
  obtain ⟨rfl,rfl⟩:=h
  exact hbad _ _ w' (Lib.hid hx) h2
end Go.Proofs.YtglepipfdmphhaaGreatDoor
