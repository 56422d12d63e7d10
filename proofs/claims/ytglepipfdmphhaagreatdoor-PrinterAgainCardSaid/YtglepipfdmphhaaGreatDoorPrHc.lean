/-
  Printer: a hall that was read, as one that can be read.
-/
import Derived.Test.YtglepipfdmphhaaGreatDoorPrHp
import Derived.Test.YtglepipfdmphhaaGreatDoorPrRl
import Derived.Test.YtglepipfdmphhaaGreatDoorPrFn
import Derived.Test.YtglepipfdmphhaaGreatDoorPnV
namespace Go.Proofs.YtglepipfdmphhaaGreatDoor
set_option linter.unusedVariables false
set_option linter.unusedSimpArgs false
open Go Go.RowKit
namespace Pr
def cbR (r:Pn.Rw):Rw:={ uvR r with at_:=r.at_ }
def cbB (b:Pn.Bl):Bl:=⟨b.name,b.rows.map cbR,b.at_⟩
def cbA (a:Pn.Ar):Ar:={ uvA a with at_:=a.at_ }
def cbL (l:Pn.Lv):Lv:=⟨l.name,l.height,l.blocks.map cbB,l.areas.map cbA,l.aisles.map uvX,l.pillars.map uvX,l.doors.map uvP,l.at_⟩
def cbH (h:Pn.Hl):Hl:=⟨h.name,h.sx,h.sy,h.levels.map cbL⟩
theorem zB_cb (x:Pn.Bl):zB (cbB x)=uvB x:=by
  simp only[zB,cbB,uvB,List.map_map]
  rfl
theorem zL_cb (x:Pn.Lv):zL (cbL x)=uvL x:=by
  simp only[zL,cbL,uvL,List.map_map]
  rw[show zB ∘ cbB=uvB from funext zB_cb]
  rfl
theorem zH_cb (x:Pn.Hl):zH (cbH x)=uvH x:=by
  simp only[zH,cbH,uvH,List.map_map]
  rw[show zL ∘ cbL=uvL from funext zL_cb]
theorem rdF_box {x:Pn.Bx} (h:Pn.FX x) {cs:List Value} {w:World} (hc:Cbx x cs w):RBx w cs (uvX x):=⟨hc,i64f h.1,i64f h.2.1,i64f h.2.2.1,i64f h.2.2.2⟩
theorem rdF_row {B:Nat} {x:Pn.Rw} (h:Pn.FR x) {cs:List Value} {w:World} (hc:Crw B x cs w):RRw w cs (cbR x):=by
  obtain ⟨u,rfl,hu⟩:=hc
  obtain ⟨h1,h2,h3,h4,h5,h6,h7,h8⟩:=h
  exact ⟨u,rfl,ListS.rd hu uvM (rchf h7 (by decide)) (fun m hm cs hc=>⟨hc,i64f (h8 m hm).1,i64f (h8 m hm).2.1,i64f (h8 m hm).2.2⟩),i64f h2,i64f h3,i64f h4,i64f h5,i64f h6,rchf h1 (by decide)⟩
theorem rdF_block {B:Nat} {x:Pn.Bl} (h:Pn.FB x) {cs:List Value} {w:World} (hc:Cbk B x cs w):RBl w cs (cbB x):=by
  obtain ⟨u,rfl,hu⟩:=hc
  exact ⟨u,rfl,ListS.rd hu cbR (rchf h.2.1 (by decide)) (fun m hm cs hc=>rdF_row (h.2.2 m hm) hc),rchf h.1 (by decide)⟩
theorem rdF_area {x:Pn.Ar} (h:Pn.FA x) {cs:List Value} {w:World} (hc:Car x cs w):RAr w cs (cbA x) :=
  ⟨hc,i64f h.2.1.1,i64f h.2.1.2.1,i64f h.2.1.2.2.1,i64f h.2.1.2.2.2,i64f h.2.2,rchf h.1 (by decide)⟩
theorem rdF_level {B:Nat} {x:Pn.Lv} (h:Pn.FL x) {cs:List Value} {w:World} (hc:Clv B x cs w):RLv w cs (cbL x):=by
  obtain ⟨u1,u2,u3,u4,u5,rfl,l1,l2,l3,l4,l5⟩:=hc
  obtain ⟨h1,h2,h3,h4,h5,h6,h7⟩:=h
  exact ⟨u1,u2,u3,u4,u5,rfl,i64f h2,ListS.rd l1 cbB (rchf h3.1 (by decide)) (fun m hm cs hc=>rdF_block (h3.2 m hm) hc),ListS.rd l2 cbA (rchf h4.1 (by decide)) (fun m hm cs hc=>rdF_area (h4.2 m hm) hc),ListS.rd l3 uvX (rchf h5.1 (by decide)) (fun m hm cs hc=>rdF_box (h5.2 m hm) hc),
    ListS.rd l4 uvX (rchf h6.1 (by decide)) (fun m hm cs hc=>rdF_box (h6.2 m hm) hc),ListS.rd l5 uvP (rchf h7.1 (by decide)) (fun m hm cs hc=>⟨hc,i64f (h7.2 m hm).1,i64f (h7.2 m hm).2⟩),rchf h1 (by decide)⟩
theorem rdF_hall {w:World} {v:Value} {x:Pn.Hl} (h:Pn.FH x) {B:Nat} (hl:ListS B 61 8 (Clv B) x.levels v w):RdS 8 RLv w v (cbH x).levels :=
  ListS.rd hl cbL (rchf h.2.2.2.1 (by decide)) (fun m hm cs hc=>rdF_level (h.2.2.2.2 m hm) hc)
end Pr
end Go.Proofs.YtglepipfdmphhaaGreatDoor
