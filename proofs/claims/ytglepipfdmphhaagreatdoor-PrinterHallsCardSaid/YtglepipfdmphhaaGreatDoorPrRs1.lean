/-
 Printer: rows, states of the first region.
-/
import Derived.Test.YtglepipfdmphhaaGreatDoorPrRa
set_option maxRecDepth 100000
set_option maxHeartbeats 40000000
namespace Go.Proofs.YtglepipfdmphhaaGreatDoor
set_option linter.unusedVariables false
set_option linter.unusedSimpArgs false
open Go Go.RowKit Go.Shelf
attribute [local irreducible] Go.wpStill
theorem r1_1234 (p : RwP) (st : RowS p 2 [1, 2, 3, 4] 9 8675599056895) : RowS p 1 [1, 2, 3, 4] 12 8675598598143 := by
 intro w2 d X a HW2 HC2 HA HX
 refine rowLit p (fun HLIT => ?_)
 refine rd1 16 ?_
 · exact rowC1
theorem r1_123 (p : RwP) (st : RowS p 2 [1, 2, 3] 10 4277552545791) (s4 : RowS p 1 [1, 2, 3, 4] 12 8675598598143) : RowS p 1 [1, 2, 3] 13 4277552087039 := by
 intro w2 d X a HW2 HC2 HA HX
 refine rowLit p (fun HLIT => ?_)
 refine rd2 16 42 ?_ ?_
 · exact rowC1
 · exact rowB4
theorem r1_124 (p : RwP) (st : RowS p 2 [1, 2, 4] 10 8667009122303) (s3 : RowS p 1 [1, 2, 3, 4] 12 8675598598143) : RowS p 1 [1, 2, 4] 13 8667008663551 := by
 intro w2 d X a HW2 HC2 HA HX
 refine rowLit p (fun HLIT => ?_)
 refine rd2 16 33 ?_ ?_
 · exact rowC1
 · exact rowB3
theorem r1_134 (p : RwP) (st : RowS p 2 [1, 3, 4] 10 8675582279679) (s2 : RowS p 1 [1, 2, 3, 4] 12 8675598598143) : RowS p 1 [1, 3, 4] 13 8675581820927 := by
 intro w2 d X a HW2 HC2 HA HX
 refine rowLit p (fun HLIT => ?_)
 refine rd2 16 24 ?_ ?_
 · exact rowC1
 · exact rowB2
theorem r1_234 (p : RwP) (s1 : RowS p 1 [1, 2, 3, 4] 12 8675598598143) : RowS p 1 [2, 3, 4] 13 8675598565375 := by
 intro w2 d X a HW2 HC2 HA HX
 refine rowLit p (fun HLIT => ?_)
 refine rd1 15 ?_
 · exact rowB1
theorem r1_12 (p : RwP) (st : RowS p 2 [1, 2] 11 4268962611199) (s3 : RowS p 1 [1, 2, 3] 13 4277552087039) (s4 : RowS p 1 [1, 2, 4] 13 8667008663551) : RowS p 1 [1, 2] 14 4268962152447 := by
 intro w2 d X a HW2 HC2 HA HX
 refine rowLit p (fun HLIT => ?_)
 refine rd3 16 33 42 ?_ ?_ ?_
 · exact rowC1
 · exact rowB3
 · exact rowB4
theorem r1_13 (p : RwP) (st : RowS p 2 [1, 3] 11 4277535768575) (s2 : RowS p 1 [1, 2, 3] 13 4277552087039) (s4 : RowS p 1 [1, 3, 4] 13 8675581820927) : RowS p 1 [1, 3] 14 4277535309823 := by
 intro w2 d X a HW2 HC2 HA HX
 refine rowLit p (fun HLIT => ?_)
 refine rd3 16 24 42 ?_ ?_ ?_
 · exact rowC1
 · exact rowB2
 · exact rowB4
theorem r1_14 (p : RwP) (st : RowS p 2 [1, 4] 11 8666992345087) (s2 : RowS p 1 [1, 2, 4] 13 8667008663551) (s3 : RowS p 1 [1, 3, 4] 13 8675581820927) : RowS p 1 [1, 4] 14 8666991886335 := by
 intro w2 d X a HW2 HC2 HA HX
 refine rowLit p (fun HLIT => ?_)
 refine rd3 16 24 33 ?_ ?_ ?_
 · exact rowC1
 · exact rowB2
 · exact rowB3
theorem r1_23 (p : RwP) (s1 : RowS p 1 [1, 2, 3] 13 4277552087039) (s4 : RowS p 1 [2, 3, 4] 13 8675598565375) : RowS p 1 [2, 3] 14 4277552054271 := by
 intro w2 d X a HW2 HC2 HA HX
 refine rowLit p (fun HLIT => ?_)
 refine rd2 15 42 ?_ ?_
 · exact rowB1
 · exact rowB4
theorem r1_24 (p : RwP) (s1 : RowS p 1 [1, 2, 4] 13 8667008663551) (s3 : RowS p 1 [2, 3, 4] 13 8675598565375) : RowS p 1 [2, 4] 14 8667008630783 := by
 intro w2 d X a HW2 HC2 HA HX
 refine rowLit p (fun HLIT => ?_)
 refine rd2 15 33 ?_ ?_
 · exact rowB1
 · exact rowB3
theorem r1_34 (p : RwP) (s1 : RowS p 1 [1, 3, 4] 13 8675581820927) (s2 : RowS p 1 [2, 3, 4] 13 8675598565375) : RowS p 1 [3, 4] 14 8675581788159 := by
 intro w2 d X a HW2 HC2 HA HX
 refine rowLit p (fun HLIT => ?_)
 refine rd2 15 24 ?_ ?_
 · exact rowB1
 · exact rowB2
theorem r1_1 (p : RwP) (st : RowS p 2 [1] 12 4268945833983) (s2 : RowS p 1 [1, 2] 14 4268962152447) (s3 : RowS p 1 [1, 3] 14 4277535309823) (s4 : RowS p 1 [1, 4] 14 8666991886335) : RowS p 1 [1] 15 4268945375231 := by
 intro w2 d X a HW2 HC2 HA HX
 refine rowLit p (fun HLIT => ?_)
 refine rd4 16 24 33 42 ?_ ?_ ?_ ?_
 · exact rowC1
 · exact rowB2
 · exact rowB3
 · exact rowB4
theorem r1_2 (p : RwP) (s1 : RowS p 1 [1, 2] 14 4268962152447) (s3 : RowS p 1 [2, 3] 14 4277552054271) (s4 : RowS p 1 [2, 4] 14 8667008630783) : RowS p 1 [2] 15 4268962119679 := by
 intro w2 d X a HW2 HC2 HA HX
 refine rowLit p (fun HLIT => ?_)
 refine rd3 15 33 42 ?_ ?_ ?_
 · exact rowB1
 · exact rowB3
 · exact rowB4
theorem r1_3 (p : RwP) (s1 : RowS p 1 [1, 3] 14 4277535309823) (s2 : RowS p 1 [2, 3] 14 4277552054271) (s4 : RowS p 1 [3, 4] 14 8675581788159) : RowS p 1 [3] 15 4277535277055 := by
 intro w2 d X a HW2 HC2 HA HX
 refine rowLit p (fun HLIT => ?_)
 refine rd3 15 24 42 ?_ ?_ ?_
 · exact rowB1
 · exact rowB2
 · exact rowB4
theorem r1_4 (p : RwP) (s1 : RowS p 1 [1, 4] 14 8666991886335) (s2 : RowS p 1 [2, 4] 14 8667008630783) (s3 : RowS p 1 [3, 4] 14 8675581788159) : RowS p 1 [4] 15 8666991853567 := by
 intro w2 d X a HW2 HC2 HA HX
 refine rowLit p (fun HLIT => ?_)
 refine rd3 15 24 33 ?_ ?_ ?_
 · exact rowB1
 · exact rowB2
 · exact rowB3
theorem r1_ (p : RwP) (s1 : RowS p 1 [1] 15 4268945375231) (s2 : RowS p 1 [2] 15 4268962119679) (s3 : RowS p 1 [3] 15 4277535277055) (s4 : RowS p 1 [4] 15 8666991853567) : RowS p 1 [] 16 4268945342463 := by
 intro w2 d X a HW2 HC2 HA HX
 refine rowLit p (fun HLIT => ?_)
 refine rd4 15 24 33 42 ?_ ?_ ?_ ?_
 · exact rowB1
 · exact rowB2
 · exact rowB3
 · exact rowB4
end Go.Proofs.YtglepipfdmphhaaGreatDoor
