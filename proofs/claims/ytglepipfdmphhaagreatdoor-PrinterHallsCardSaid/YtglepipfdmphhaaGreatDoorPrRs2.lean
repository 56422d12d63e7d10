/-
 Printer: rows, states of the first region.
-/
import Derived.Test.YtglepipfdmphhaaGreatDoorPrRa
set_option maxRecDepth 100000
set_option maxHeartbeats 40000000
namespace Go.Proofs.YtglepipfdmphhaaGreatDoor
set_option linter.unusedVariables false
set_option linter.unusedSimpArgs false
open Go Go.RowKit Go.Shelf
attribute [local irreducible] Go.wpStill
theorem r0_1234 (p : RwP) (st : RowS p 1 [1, 2, 3, 4] 12 8675598598143) : RowS p 0 [1, 2, 3, 4] 15 8675598597919 := by
 intro w2 d X a HW2 HC2 HA HX
 refine rowLit p (fun HLIT => ?_)
 refine rd1 5 ?_
 · exact rowC0
theorem r0_123 (p : RwP) (st : RowS p 1 [1, 2, 3] 13 4277552087039) (s4 : RowS p 0 [1, 2, 3, 4] 15 8675598597919) : RowS p 0 [1, 2, 3] 16 4277552086815 := by
 intro w2 d X a HW2 HC2 HA HX
 refine rowLit p (fun HLIT => ?_)
 refine rd2 5 42 ?_ ?_
 · exact rowC0
 · exact rowB4
theorem r0_124 (p : RwP) (st : RowS p 1 [1, 2, 4] 13 8667008663551) (s3 : RowS p 0 [1, 2, 3, 4] 15 8675598597919) : RowS p 0 [1, 2, 4] 16 8667008663327 := by
 intro w2 d X a HW2 HC2 HA HX
 refine rowLit p (fun HLIT => ?_)
 refine rd2 5 33 ?_ ?_
 · exact rowC0
 · exact rowB3
theorem r0_134 (p : RwP) (st : RowS p 1 [1, 3, 4] 13 8675581820927) (s2 : RowS p 0 [1, 2, 3, 4] 15 8675598597919) : RowS p 0 [1, 3, 4] 16 8675581820703 := by
 intro w2 d X a HW2 HC2 HA HX
 refine rowLit p (fun HLIT => ?_)
 refine rd2 5 24 ?_ ?_
 · exact rowC0
 · exact rowB2
theorem r0_234 (p : RwP) (st : RowS p 1 [2, 3, 4] 13 8675598565375) (s1 : RowS p 0 [1, 2, 3, 4] 15 8675598597919) : RowS p 0 [2, 3, 4] 16 8675598565151 := by
 intro w2 d X a HW2 HC2 HA HX
 refine rowLit p (fun HLIT => ?_)
 refine rd2 5 15 ?_ ?_
 · exact rowC0
 · exact rowB1
theorem r0_12 (p : RwP) (st : RowS p 1 [1, 2] 14 4268962152447) (s3 : RowS p 0 [1, 2, 3] 16 4277552086815) (s4 : RowS p 0 [1, 2, 4] 16 8667008663327) : RowS p 0 [1, 2] 17 4268962152223 := by
 intro w2 d X a HW2 HC2 HA HX
 refine rowLit p (fun HLIT => ?_)
 refine rd3 5 33 42 ?_ ?_ ?_
 · exact rowC0
 · exact rowB3
 · exact rowB4
theorem r0_13 (p : RwP) (st : RowS p 1 [1, 3] 14 4277535309823) (s2 : RowS p 0 [1, 2, 3] 16 4277552086815) (s4 : RowS p 0 [1, 3, 4] 16 8675581820703) : RowS p 0 [1, 3] 17 4277535309599 := by
 intro w2 d X a HW2 HC2 HA HX
 refine rowLit p (fun HLIT => ?_)
 refine rd3 5 24 42 ?_ ?_ ?_
 · exact rowC0
 · exact rowB2
 · exact rowB4
theorem r0_14 (p : RwP) (st : RowS p 1 [1, 4] 14 8666991886335) (s2 : RowS p 0 [1, 2, 4] 16 8667008663327) (s3 : RowS p 0 [1, 3, 4] 16 8675581820703) : RowS p 0 [1, 4] 17 8666991886111 := by
 intro w2 d X a HW2 HC2 HA HX
 refine rowLit p (fun HLIT => ?_)
 refine rd3 5 24 33 ?_ ?_ ?_
 · exact rowC0
 · exact rowB2
 · exact rowB3
theorem r0_23 (p : RwP) (st : RowS p 1 [2, 3] 14 4277552054271) (s1 : RowS p 0 [1, 2, 3] 16 4277552086815) (s4 : RowS p 0 [2, 3, 4] 16 8675598565151) : RowS p 0 [2, 3] 17 4277552054047 := by
 intro w2 d X a HW2 HC2 HA HX
 refine rowLit p (fun HLIT => ?_)
 refine rd3 5 15 42 ?_ ?_ ?_
 · exact rowC0
 · exact rowB1
 · exact rowB4
theorem r0_24 (p : RwP) (st : RowS p 1 [2, 4] 14 8667008630783) (s1 : RowS p 0 [1, 2, 4] 16 8667008663327) (s3 : RowS p 0 [2, 3, 4] 16 8675598565151) : RowS p 0 [2, 4] 17 8667008630559 := by
 intro w2 d X a HW2 HC2 HA HX
 refine rowLit p (fun HLIT => ?_)
 refine rd3 5 15 33 ?_ ?_ ?_
 · exact rowC0
 · exact rowB1
 · exact rowB3
theorem r0_34 (p : RwP) (st : RowS p 1 [3, 4] 14 8675581788159) (s1 : RowS p 0 [1, 3, 4] 16 8675581820703) (s2 : RowS p 0 [2, 3, 4] 16 8675598565151) : RowS p 0 [3, 4] 17 8675581787935 := by
 intro w2 d X a HW2 HC2 HA HX
 refine rowLit p (fun HLIT => ?_)
 refine rd3 5 15 24 ?_ ?_ ?_
 · exact rowC0
 · exact rowB1
 · exact rowB2
theorem r0_1 (p : RwP) (st : RowS p 1 [1] 15 4268945375231) (s2 : RowS p 0 [1, 2] 17 4268962152223) (s3 : RowS p 0 [1, 3] 17 4277535309599) (s4 : RowS p 0 [1, 4] 17 8666991886111) : RowS p 0 [1] 18 4268945375007 := by
 intro w2 d X a HW2 HC2 HA HX
 refine rowLit p (fun HLIT => ?_)
 refine rd4 5 24 33 42 ?_ ?_ ?_ ?_
 · exact rowC0
 · exact rowB2
 · exact rowB3
 · exact rowB4
theorem r0_2 (p : RwP) (st : RowS p 1 [2] 15 4268962119679) (s1 : RowS p 0 [1, 2] 17 4268962152223) (s3 : RowS p 0 [2, 3] 17 4277552054047) (s4 : RowS p 0 [2, 4] 17 8667008630559) : RowS p 0 [2] 18 4268962119455 := by
 intro w2 d X a HW2 HC2 HA HX
 refine rowLit p (fun HLIT => ?_)
 refine rd4 5 15 33 42 ?_ ?_ ?_ ?_
 · exact rowC0
 · exact rowB1
 · exact rowB3
 · exact rowB4
theorem r0_3 (p : RwP) (st : RowS p 1 [3] 15 4277535277055) (s1 : RowS p 0 [1, 3] 17 4277535309599) (s2 : RowS p 0 [2, 3] 17 4277552054047) (s4 : RowS p 0 [3, 4] 17 8675581787935) : RowS p 0 [3] 18 4277535276831 := by
 intro w2 d X a HW2 HC2 HA HX
 refine rowLit p (fun HLIT => ?_)
 refine rd4 5 15 24 42 ?_ ?_ ?_ ?_
 · exact rowC0
 · exact rowB1
 · exact rowB2
 · exact rowB4
theorem r0_4 (p : RwP) (st : RowS p 1 [4] 15 8666991853567) (s1 : RowS p 0 [1, 4] 17 8666991886111) (s2 : RowS p 0 [2, 4] 17 8667008630559) (s3 : RowS p 0 [3, 4] 17 8675581787935) : RowS p 0 [4] 18 8666991853343 := by
 intro w2 d X a HW2 HC2 HA HX
 refine rowLit p (fun HLIT => ?_)
 refine rd4 5 15 24 33 ?_ ?_ ?_ ?_
 · exact rowC0
 · exact rowB1
 · exact rowB2
 · exact rowB3
theorem r0_ (p : RwP) (st : RowS p 1 [] 16 4268945342463) (s1 : RowS p 0 [1] 18 4268945375007) (s2 : RowS p 0 [2] 18 4268962119455) (s3 : RowS p 0 [3] 18 4277535276831) (s4 : RowS p 0 [4] 18 8666991853343) : RowS p 0 [] 19 4268945342239 := by
 intro w2 d X a HW2 HC2 HA HX
 refine rowLit p (fun HLIT => ?_)
 refine rd5 5 15 24 33 42 ?_ ?_ ?_ ?_ ?_
 · exact rowC0
 · exact rowB1
 · exact rowB2
 · exact rowB3
 · exact rowB4
end Go.Proofs.YtglepipfdmphhaaGreatDoor
