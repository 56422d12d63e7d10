/-
 Printer: rows, states of the first region.
-/
import Derived.Test.YtglepipfdmphhaaGreatDoorPrRa
set_option maxRecDepth 100000
set_option maxHeartbeats 40000000
namespace Go.Proofs.YtglepipfdmphhaaGreatDoor
set_option linter.unusedVariables false
set_option linter.unusedSimpArgs false
open Go Go.RowKit Go.Shelf
attribute [local irreducible] Go.wpStill
theorem r4_1234 (p : RwP) (st : RowS p 5 [1, 2, 3, 4] 1 35184372088831) : RowS p 4 [1, 2, 3, 4] 3 8796093022207 := by
 intro w2 d X a HW2 HC2 HA HX
 refine rowLit p (fun HLIT => ?_)
 refine rd1 43 ?_
 · exact rowC4
theorem r4_123 (p : RwP) (s4 : RowS p 4 [1, 2, 3, 4] 3 8796093022207) : RowS p 4 [1, 2, 3] 4 4398046511103 := by
 intro w2 d X a HW2 HC2 HA HX
 refine rowLit p (fun HLIT => ?_)
 refine rd1 42 ?_
 · exact rowB4
theorem r3_1234 (p : RwP) (st : RowS p 4 [1, 2, 3, 4] 3 8796093022207) : RowS p 3 [1, 2, 3, 4] 6 8675833937919 := by
 intro w2 d X a HW2 HC2 HA HX
 refine rowLit p (fun HLIT => ?_)
 refine rd1 34 ?_
 · exact rowC3
theorem r3_123 (p : RwP) (st : RowS p 4 [1, 2, 3] 4 4398046511103) (s4 : RowS p 3 [1, 2, 3, 4] 6 8675833937919) : RowS p 3 [1, 2, 3] 7 4277787426815 := by
 intro w2 d X a HW2 HC2 HA HX
 refine rowLit p (fun HLIT => ?_)
 refine rd2 34 42 ?_ ?_
 · exact rowC3
 · exact rowB4
theorem r3_124 (p : RwP) (s3 : RowS p 3 [1, 2, 3, 4] 6 8675833937919) : RowS p 3 [1, 2, 4] 7 8667244003327 := by
 intro w2 d X a HW2 HC2 HA HX
 refine rowLit p (fun HLIT => ?_)
 refine rd1 33 ?_
 · exact rowB3
theorem r3_12 (p : RwP) (s3 : RowS p 3 [1, 2, 3] 7 4277787426815) (s4 : RowS p 3 [1, 2, 4] 7 8667244003327) : RowS p 3 [1, 2] 8 4269197492223 := by
 intro w2 d X a HW2 HC2 HA HX
 refine rowLit p (fun HLIT => ?_)
 refine rd2 33 42 ?_ ?_
 · exact rowB3
 · exact rowB4
theorem r2_1234 (p : RwP) (st : RowS p 3 [1, 2, 3, 4] 6 8675833937919) : RowS p 2 [1, 2, 3, 4] 9 8675599056895 := by
 intro w2 d X a HW2 HC2 HA HX
 refine rowLit p (fun HLIT => ?_)
 refine rd1 25 ?_
 · exact rowC2
theorem r2_123 (p : RwP) (st : RowS p 3 [1, 2, 3] 7 4277787426815) (s4 : RowS p 2 [1, 2, 3, 4] 9 8675599056895) : RowS p 2 [1, 2, 3] 10 4277552545791 := by
 intro w2 d X a HW2 HC2 HA HX
 refine rowLit p (fun HLIT => ?_)
 refine rd2 25 42 ?_ ?_
 · exact rowC2
 · exact rowB4
theorem r2_124 (p : RwP) (st : RowS p 3 [1, 2, 4] 7 8667244003327) (s3 : RowS p 2 [1, 2, 3, 4] 9 8675599056895) : RowS p 2 [1, 2, 4] 10 8667009122303 := by
 intro w2 d X a HW2 HC2 HA HX
 refine rowLit p (fun HLIT => ?_)
 refine rd2 25 33 ?_ ?_
 · exact rowC2
 · exact rowB3
theorem r2_134 (p : RwP) (s2 : RowS p 2 [1, 2, 3, 4] 9 8675599056895) : RowS p 2 [1, 3, 4] 10 8675582279679 := by
 intro w2 d X a HW2 HC2 HA HX
 refine rowLit p (fun HLIT => ?_)
 refine rd1 24 ?_
 · exact rowB2
theorem r2_12 (p : RwP) (st : RowS p 3 [1, 2] 8 4269197492223) (s3 : RowS p 2 [1, 2, 3] 10 4277552545791) (s4 : RowS p 2 [1, 2, 4] 10 8667009122303) : RowS p 2 [1, 2] 11 4268962611199 := by
 intro w2 d X a HW2 HC2 HA HX
 refine rowLit p (fun HLIT => ?_)
 refine rd3 25 33 42 ?_ ?_ ?_
 · exact rowC2
 · exact rowB3
 · exact rowB4
theorem r2_13 (p : RwP) (s2 : RowS p 2 [1, 2, 3] 10 4277552545791) (s4 : RowS p 2 [1, 3, 4] 10 8675582279679) : RowS p 2 [1, 3] 11 4277535768575 := by
 intro w2 d X a HW2 HC2 HA HX
 refine rowLit p (fun HLIT => ?_)
 refine rd2 24 42 ?_ ?_
 · exact rowB2
 · exact rowB4
theorem r2_14 (p : RwP) (s2 : RowS p 2 [1, 2, 4] 10 8667009122303) (s3 : RowS p 2 [1, 3, 4] 10 8675582279679) : RowS p 2 [1, 4] 11 8666992345087 := by
 intro w2 d X a HW2 HC2 HA HX
 refine rowLit p (fun HLIT => ?_)
 refine rd2 24 33 ?_ ?_
 · exact rowB2
 · exact rowB3
theorem r2_1 (p : RwP) (s2 : RowS p 2 [1, 2] 11 4268962611199) (s3 : RowS p 2 [1, 3] 11 4277535768575) (s4 : RowS p 2 [1, 4] 11 8666992345087) : RowS p 2 [1] 12 4268945833983 := by
 intro w2 d X a HW2 HC2 HA HX
 refine rowLit p (fun HLIT => ?_)
 refine rd3 24 33 42 ?_ ?_ ?_
 · exact rowB2
 · exact rowB3
 · exact rowB4
end Go.Proofs.YtglepipfdmphhaaGreatDoor
