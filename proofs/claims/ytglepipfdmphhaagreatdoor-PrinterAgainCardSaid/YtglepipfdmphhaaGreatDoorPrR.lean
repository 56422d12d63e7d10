/-
  PrRs0, PrRs1, PrRs2, PrR in one text.
-/
import Derived.Test.YtglepipfdmphhaaGreatDoorPrRa
set_option maxRecDepth 100000
set_option maxHeartbeats 40000000
namespace Go.Proofs.YtglepipfdmphhaaGreatDoor
set_option linter.unusedVariables false
set_option linter.unusedSimpArgs false
open Go Go.RowKit Go.Shelf
attribute [local irreducible] Go.wpStill
theorem r4_1234 (p:RwP) (st:RowS p 5 [1,2,3,4] 1 35184372088831):RowS p 4 [1,2,3,4] 3 8796093022207:=by
 intro w2 d X a HW2 HC2 HA HX
 refine rowLit p (fun HLIT=>?_)
 refine rd1 43 ?_
 · exact rowC4
theorem r4_123 (p:RwP) (s4:RowS p 4 [1,2,3,4] 3 8796093022207):RowS p 4 [1,2,3] 4 4398046511103:=by
 intro w2 d X a HW2 HC2 HA HX
 refine rowLit p (fun HLIT=>?_)
 refine rd1 42 ?_
 · exact rowB4
theorem r3_1234 (p:RwP) (st:RowS p 4 [1,2,3,4] 3 8796093022207):RowS p 3 [1,2,3,4] 6 8675833937919:=by
 intro w2 d X a HW2 HC2 HA HX
 refine rowLit p (fun HLIT=>?_)
 refine rd1 34 ?_
 · exact rowC3
theorem r3_123 (p:RwP) (st:RowS p 4 [1,2,3] 4 4398046511103) (s4:RowS p 3 [1,2,3,4] 6 8675833937919):RowS p 3 [1,2,3] 7 4277787426815:=by
 intro w2 d X a HW2 HC2 HA HX
 refine rowLit p (fun HLIT=>?_)
 refine rd2 34 42 ?_ ?_
 · exact rowC3
 exact rowB4
theorem r3_124 (p:RwP) (s3:RowS p 3 [1,2,3,4] 6 8675833937919):RowS p 3 [1,2,4] 7 8667244003327:=by
 intro w2 d X a HW2 HC2 HA HX
 refine rowLit p (fun HLIT=>?_)
 refine rd1 33 ?_
 · exact rowB3
theorem r3_12 (p:RwP) (s3:RowS p 3 [1,2,3] 7 4277787426815) (s4:RowS p 3 [1,2,4] 7 8667244003327):RowS p 3 [1,2] 8 4269197492223:=by
 intro w2 d X a HW2 HC2 HA HX
 refine rowLit p (fun HLIT=>?_)
 refine rd2 33 42 ?_ ?_
 · exact rowB3
 exact rowB4
theorem r2_1234 (p:RwP) (st:RowS p 3 [1,2,3,4] 6 8675833937919):RowS p 2 [1,2,3,4] 9 8675599056895:=by
 intro w2 d X a HW2 HC2 HA HX
 refine rowLit p (fun HLIT=>?_)
 refine rd1 25 ?_
 · exact rowC2
theorem r2_123 (p:RwP) (st:RowS p 3 [1,2,3] 7 4277787426815) (s4:RowS p 2 [1,2,3,4] 9 8675599056895):RowS p 2 [1,2,3] 10 4277552545791:=by
 intro w2 d X a HW2 HC2 HA HX
 refine rowLit p (fun HLIT=>?_)
 refine rd2 25 42 ?_ ?_
 · exact rowC2
 exact rowB4
theorem r2_124 (p:RwP) (st:RowS p 3 [1,2,4] 7 8667244003327) (s3:RowS p 2 [1,2,3,4] 9 8675599056895):RowS p 2 [1,2,4] 10 8667009122303:=by
 intro w2 d X a HW2 HC2 HA HX
 refine rowLit p (fun HLIT=>?_)
 refine rd2 25 33 ?_ ?_
 · exact rowC2
 exact rowB3
theorem r2_134 (p:RwP) (s2:RowS p 2 [1,2,3,4] 9 8675599056895):RowS p 2 [1,3,4] 10 8675582279679:=by
 intro w2 d X a HW2 HC2 HA HX
 refine rowLit p (fun HLIT=>?_)
 refine rd1 24 ?_
 · exact rowB2
theorem r2_12 (p:RwP) (st:RowS p 3 [1,2] 8 4269197492223) (s3:RowS p 2 [1,2,3] 10 4277552545791) (s4:RowS p 2 [1,2,4] 10 8667009122303):RowS p 2 [1,2] 11 4268962611199:=by
 intro w2 d X a HW2 HC2 HA HX
 refine rowLit p (fun HLIT=>?_)
 refine rd3 25 33 42 ?_ ?_ ?_
 · exact rowC2
 · exact rowB3
 exact rowB4
theorem r2_13 (p:RwP) (s2:RowS p 2 [1,2,3] 10 4277552545791) (s4:RowS p 2 [1,3,4] 10 8675582279679):RowS p 2 [1,3] 11 4277535768575:=by
 intro w2 d X a HW2 HC2 HA HX
 refine rowLit p (fun HLIT=>?_)
 refine rd2 24 42 ?_ ?_
 · exact rowB2
 exact rowB4
theorem r2_14 (p:RwP) (s2:RowS p 2 [1,2,4] 10 8667009122303) (s3:RowS p 2 [1,3,4] 10 8675582279679):RowS p 2 [1,4] 11 8666992345087:=by
 intro w2 d X a HW2 HC2 HA HX
 refine rowLit p (fun HLIT=>?_)
 refine rd2 24 33 ?_ ?_
 · exact rowB2
 exact rowB3
theorem r2_1 (p:RwP) (s2:RowS p 2 [1,2] 11 4268962611199) (s3:RowS p 2 [1,3] 11 4277535768575) (s4:RowS p 2 [1,4] 11 8666992345087):RowS p 2 [1] 12 4268945833983:=by
 intro w2 d X a HW2 HC2 HA HX
 refine rowLit p (fun HLIT=>?_)
 refine rd3 24 33 42 ?_ ?_ ?_
 · exact rowB2
 · exact rowB3
 exact rowB4
end Go.Proofs.YtglepipfdmphhaaGreatDoor
set_option maxRecDepth 100000
set_option maxHeartbeats 40000000
namespace Go.Proofs.YtglepipfdmphhaaGreatDoor
set_option linter.unusedVariables false
set_option linter.unusedSimpArgs false
open Go Go.RowKit Go.Shelf
attribute [local irreducible] Go.wpStill
theorem r1_1234 (p:RwP) (st:RowS p 2 [1,2,3,4] 9 8675599056895):RowS p 1 [1,2,3,4] 12 8675598598143:=by
 intro w2 d X a HW2 HC2 HA HX
 refine rowLit p (fun HLIT=>?_)
 refine rd1 16 ?_
 · exact rowC1
theorem r1_123 (p:RwP) (st:RowS p 2 [1,2,3] 10 4277552545791) (s4:RowS p 1 [1,2,3,4] 12 8675598598143):RowS p 1 [1,2,3] 13 4277552087039:=by
 intro w2 d X a HW2 HC2 HA HX
 refine rowLit p (fun HLIT=>?_)
 refine rd2 16 42 ?_ ?_
 · exact rowC1
 exact rowB4
theorem r1_124 (p:RwP) (st:RowS p 2 [1,2,4] 10 8667009122303) (s3:RowS p 1 [1,2,3,4] 12 8675598598143):RowS p 1 [1,2,4] 13 8667008663551:=by
 intro w2 d X a HW2 HC2 HA HX
 refine rowLit p (fun HLIT=>?_)
 refine rd2 16 33 ?_ ?_
 · exact rowC1
 exact rowB3
theorem r1_134 (p:RwP) (st:RowS p 2 [1,3,4] 10 8675582279679) (s2:RowS p 1 [1,2,3,4] 12 8675598598143):RowS p 1 [1,3,4] 13 8675581820927:=by
 intro w2 d X a HW2 HC2 HA HX
 refine rowLit p (fun HLIT=>?_)
 refine rd2 16 24 ?_ ?_
 · exact rowC1
 exact rowB2
theorem r1_234 (p:RwP) (s1:RowS p 1 [1,2,3,4] 12 8675598598143):RowS p 1 [2,3,4] 13 8675598565375:=by
 intro w2 d X a HW2 HC2 HA HX
 refine rowLit p (fun HLIT=>?_)
 refine rd1 15 ?_
 · exact rowB1
theorem r1_12 (p:RwP) (st:RowS p 2 [1,2] 11 4268962611199) (s3:RowS p 1 [1,2,3] 13 4277552087039) (s4:RowS p 1 [1,2,4] 13 8667008663551):RowS p 1 [1,2] 14 4268962152447:=by
 intro w2 d X a HW2 HC2 HA HX
 refine rowLit p (fun HLIT=>?_)
 refine rd3 16 33 42 ?_ ?_ ?_
 · exact rowC1
 · exact rowB3
 exact rowB4
theorem r1_13 (p:RwP) (st:RowS p 2 [1,3] 11 4277535768575) (s2:RowS p 1 [1,2,3] 13 4277552087039) (s4:RowS p 1 [1,3,4] 13 8675581820927):RowS p 1 [1,3] 14 4277535309823:=by
 intro w2 d X a HW2 HC2 HA HX
 refine rowLit p (fun HLIT=>?_)
 refine rd3 16 24 42 ?_ ?_ ?_
 · exact rowC1
 · exact rowB2
 exact rowB4
theorem r1_14 (p:RwP) (st:RowS p 2 [1,4] 11 8666992345087) (s2:RowS p 1 [1,2,4] 13 8667008663551) (s3:RowS p 1 [1,3,4] 13 8675581820927):RowS p 1 [1,4] 14 8666991886335:=by
 intro w2 d X a HW2 HC2 HA HX
 refine rowLit p (fun HLIT=>?_)
 refine rd3 16 24 33 ?_ ?_ ?_
 · exact rowC1
 · exact rowB2
 exact rowB3
theorem r1_23 (p:RwP) (s1:RowS p 1 [1,2,3] 13 4277552087039) (s4:RowS p 1 [2,3,4] 13 8675598565375):RowS p 1 [2,3] 14 4277552054271:=by
 intro w2 d X a HW2 HC2 HA HX
 refine rowLit p (fun HLIT=>?_)
 refine rd2 15 42 ?_ ?_
 · exact rowB1
 exact rowB4
theorem r1_24 (p:RwP) (s1:RowS p 1 [1,2,4] 13 8667008663551) (s3:RowS p 1 [2,3,4] 13 8675598565375):RowS p 1 [2,4] 14 8667008630783:=by
 intro w2 d X a HW2 HC2 HA HX
 refine rowLit p (fun HLIT=>?_)
 refine rd2 15 33 ?_ ?_
 · exact rowB1
 exact rowB3
theorem r1_34 (p:RwP) (s1:RowS p 1 [1,3,4] 13 8675581820927) (s2:RowS p 1 [2,3,4] 13 8675598565375):RowS p 1 [3,4] 14 8675581788159:=by
 intro w2 d X a HW2 HC2 HA HX
 refine rowLit p (fun HLIT=>?_)
 refine rd2 15 24 ?_ ?_
 · exact rowB1
 exact rowB2
theorem r1_1 (p:RwP) (st:RowS p 2 [1] 12 4268945833983) (s2:RowS p 1 [1,2] 14 4268962152447) (s3:RowS p 1 [1,3] 14 4277535309823) (s4:RowS p 1 [1,4] 14 8666991886335):RowS p 1 [1] 15 4268945375231:=by
 intro w2 d X a HW2 HC2 HA HX
 refine rowLit p (fun HLIT=>?_)
 refine rd4 16 24 33 42 ?_ ?_ ?_ ?_
 · exact rowC1
 · exact rowB2
 · exact rowB3
 exact rowB4
theorem r1_2 (p:RwP) (s1:RowS p 1 [1,2] 14 4268962152447) (s3:RowS p 1 [2,3] 14 4277552054271) (s4:RowS p 1 [2,4] 14 8667008630783):RowS p 1 [2] 15 4268962119679:=by
 intro w2 d X a HW2 HC2 HA HX
 refine rowLit p (fun HLIT=>?_)
 refine rd3 15 33 42 ?_ ?_ ?_
 · exact rowB1
 · exact rowB3
 exact rowB4
theorem r1_3 (p:RwP) (s1:RowS p 1 [1,3] 14 4277535309823) (s2:RowS p 1 [2,3] 14 4277552054271) (s4:RowS p 1 [3,4] 14 8675581788159):RowS p 1 [3] 15 4277535277055:=by
 intro w2 d X a HW2 HC2 HA HX
 refine rowLit p (fun HLIT=>?_)
 refine rd3 15 24 42 ?_ ?_ ?_
 · exact rowB1
 · exact rowB2
 exact rowB4
theorem r1_4 (p:RwP) (s1:RowS p 1 [1,4] 14 8666991886335) (s2:RowS p 1 [2,4] 14 8667008630783) (s3:RowS p 1 [3,4] 14 8675581788159):RowS p 1 [4] 15 8666991853567:=by
 intro w2 d X a HW2 HC2 HA HX
 refine rowLit p (fun HLIT=>?_)
 refine rd3 15 24 33 ?_ ?_ ?_
 · exact rowB1
 · exact rowB2
 exact rowB3
theorem r1_ (p:RwP) (s1:RowS p 1 [1] 15 4268945375231) (s2:RowS p 1 [2] 15 4268962119679) (s3:RowS p 1 [3] 15 4277535277055) (s4:RowS p 1 [4] 15 8666991853567):RowS p 1 [] 16 4268945342463:=by
 intro w2 d X a HW2 HC2 HA HX
 refine rowLit p (fun HLIT=>?_)
 refine rd4 15 24 33 42 ?_ ?_ ?_ ?_
 · exact rowB1
 · exact rowB2
 · exact rowB3
 exact rowB4
end Go.Proofs.YtglepipfdmphhaaGreatDoor
set_option maxRecDepth 100000
set_option maxHeartbeats 40000000
namespace Go.Proofs.YtglepipfdmphhaaGreatDoor
set_option linter.unusedVariables false
set_option linter.unusedSimpArgs false
open Go Go.RowKit Go.Shelf
attribute [local irreducible] Go.wpStill
theorem r0_1234 (p:RwP) (st:RowS p 1 [1,2,3,4] 12 8675598598143):RowS p 0 [1,2,3,4] 15 8675598597919:=by
 intro w2 d X a HW2 HC2 HA HX
 refine rowLit p (fun HLIT=>?_)
 refine rd1 5 ?_
 · exact rowC0
theorem r0_123 (p:RwP) (st:RowS p 1 [1,2,3] 13 4277552087039) (s4:RowS p 0 [1,2,3,4] 15 8675598597919):RowS p 0 [1,2,3] 16 4277552086815:=by
 intro w2 d X a HW2 HC2 HA HX
 refine rowLit p (fun HLIT=>?_)
 refine rd2 5 42 ?_ ?_
 · exact rowC0
 exact rowB4
theorem r0_124 (p:RwP) (st:RowS p 1 [1,2,4] 13 8667008663551) (s3:RowS p 0 [1,2,3,4] 15 8675598597919):RowS p 0 [1,2,4] 16 8667008663327:=by
 intro w2 d X a HW2 HC2 HA HX
 refine rowLit p (fun HLIT=>?_)
 refine rd2 5 33 ?_ ?_
 · exact rowC0
 exact rowB3
theorem r0_134 (p:RwP) (st:RowS p 1 [1,3,4] 13 8675581820927) (s2:RowS p 0 [1,2,3,4] 15 8675598597919):RowS p 0 [1,3,4] 16 8675581820703:=by
 intro w2 d X a HW2 HC2 HA HX
 refine rowLit p (fun HLIT=>?_)
 refine rd2 5 24 ?_ ?_
 · exact rowC0
 exact rowB2
theorem r0_234 (p:RwP) (st:RowS p 1 [2,3,4] 13 8675598565375) (s1:RowS p 0 [1,2,3,4] 15 8675598597919):RowS p 0 [2,3,4] 16 8675598565151:=by
 intro w2 d X a HW2 HC2 HA HX
 refine rowLit p (fun HLIT=>?_)
 refine rd2 5 15 ?_ ?_
 · exact rowC0
 exact rowB1
theorem r0_12 (p:RwP) (st:RowS p 1 [1,2] 14 4268962152447) (s3:RowS p 0 [1,2,3] 16 4277552086815) (s4:RowS p 0 [1,2,4] 16 8667008663327):RowS p 0 [1,2] 17 4268962152223:=by
 intro w2 d X a HW2 HC2 HA HX
 refine rowLit p (fun HLIT=>?_)
 refine rd3 5 33 42 ?_ ?_ ?_
 · exact rowC0
 · exact rowB3
 exact rowB4
theorem r0_13 (p:RwP) (st:RowS p 1 [1,3] 14 4277535309823) (s2:RowS p 0 [1,2,3] 16 4277552086815) (s4:RowS p 0 [1,3,4] 16 8675581820703):RowS p 0 [1,3] 17 4277535309599:=by
 intro w2 d X a HW2 HC2 HA HX
 refine rowLit p (fun HLIT=>?_)
 refine rd3 5 24 42 ?_ ?_ ?_
 · exact rowC0
 · exact rowB2
 exact rowB4
theorem r0_14 (p:RwP) (st:RowS p 1 [1,4] 14 8666991886335) (s2:RowS p 0 [1,2,4] 16 8667008663327) (s3:RowS p 0 [1,3,4] 16 8675581820703):RowS p 0 [1,4] 17 8666991886111:=by
 intro w2 d X a HW2 HC2 HA HX
 refine rowLit p (fun HLIT=>?_)
 refine rd3 5 24 33 ?_ ?_ ?_
 · exact rowC0
 · exact rowB2
 exact rowB3
theorem r0_23 (p:RwP) (st:RowS p 1 [2,3] 14 4277552054271) (s1:RowS p 0 [1,2,3] 16 4277552086815) (s4:RowS p 0 [2,3,4] 16 8675598565151):RowS p 0 [2,3] 17 4277552054047:=by
 intro w2 d X a HW2 HC2 HA HX
 refine rowLit p (fun HLIT=>?_)
 refine rd3 5 15 42 ?_ ?_ ?_
 · exact rowC0
 · exact rowB1
 exact rowB4
theorem r0_24 (p:RwP) (st:RowS p 1 [2,4] 14 8667008630783) (s1:RowS p 0 [1,2,4] 16 8667008663327) (s3:RowS p 0 [2,3,4] 16 8675598565151):RowS p 0 [2,4] 17 8667008630559:=by
 intro w2 d X a HW2 HC2 HA HX
 refine rowLit p (fun HLIT=>?_)
 refine rd3 5 15 33 ?_ ?_ ?_
 · exact rowC0
 · exact rowB1
 exact rowB3
theorem r0_34 (p:RwP) (st:RowS p 1 [3,4] 14 8675581788159) (s1:RowS p 0 [1,3,4] 16 8675581820703) (s2:RowS p 0 [2,3,4] 16 8675598565151):RowS p 0 [3,4] 17 8675581787935:=by
 intro w2 d X a HW2 HC2 HA HX
 refine rowLit p (fun HLIT=>?_)
 refine rd3 5 15 24 ?_ ?_ ?_
 · exact rowC0
 · exact rowB1
 exact rowB2
theorem r0_1 (p:RwP) (st:RowS p 1 [1] 15 4268945375231) (s2:RowS p 0 [1,2] 17 4268962152223) (s3:RowS p 0 [1,3] 17 4277535309599) (s4:RowS p 0 [1,4] 17 8666991886111):RowS p 0 [1] 18 4268945375007:=by
 intro w2 d X a HW2 HC2 HA HX
 refine rowLit p (fun HLIT=>?_)
 refine rd4 5 24 33 42 ?_ ?_ ?_ ?_
 · exact rowC0
 · exact rowB2
 · exact rowB3
 exact rowB4
theorem r0_2 (p:RwP) (st:RowS p 1 [2] 15 4268962119679) (s1:RowS p 0 [1,2] 17 4268962152223) (s3:RowS p 0 [2,3] 17 4277552054047) (s4:RowS p 0 [2,4] 17 8667008630559):RowS p 0 [2] 18 4268962119455:=by
 intro w2 d X a HW2 HC2 HA HX
 refine rowLit p (fun HLIT=>?_)
 refine rd4 5 15 33 42 ?_ ?_ ?_ ?_
 · exact rowC0
 · exact rowB1
 · exact rowB3
 exact rowB4
theorem r0_3 (p:RwP) (st:RowS p 1 [3] 15 4277535277055) (s1:RowS p 0 [1,3] 17 4277535309599) (s2:RowS p 0 [2,3] 17 4277552054047) (s4:RowS p 0 [3,4] 17 8675581787935):RowS p 0 [3] 18 4277535276831:=by
 intro w2 d X a HW2 HC2 HA HX
 refine rowLit p (fun HLIT=>?_)
 refine rd4 5 15 24 42 ?_ ?_ ?_ ?_
 · exact rowC0
 · exact rowB1
 · exact rowB2
 exact rowB4
theorem r0_4 (p:RwP) (st:RowS p 1 [4] 15 8666991853567) (s1:RowS p 0 [1,4] 17 8666991886111) (s2:RowS p 0 [2,4] 17 8667008630559) (s3:RowS p 0 [3,4] 17 8675581787935):RowS p 0 [4] 18 8666991853343:=by
 intro w2 d X a HW2 HC2 HA HX
 refine rowLit p (fun HLIT=>?_)
 refine rd4 5 15 24 33 ?_ ?_ ?_ ?_
 · exact rowC0
 · exact rowB1
 · exact rowB2
 exact rowB3
theorem r0_ (p:RwP) (st:RowS p 1 [] 16 4268945342463) (s1:RowS p 0 [1] 18 4268945375007) (s2:RowS p 0 [2] 18 4268962119455) (s3:RowS p 0 [3] 18 4277535276831) (s4:RowS p 0 [4] 18 8666991853343):RowS p 0 [] 19 4268945342239:=by
 intro w2 d X a HW2 HC2 HA HX
 refine rowLit p (fun HLIT=>?_)
 refine rd5 5 15 24 33 42 ?_ ?_ ?_ ?_ ?_
 · exact rowC0
 · exact rowB1
 · exact rowB2
 · exact rowB3
 exact rowB4
end Go.Proofs.YtglepipfdmphhaaGreatDoor
set_option maxRecDepth 100000
set_option maxHeartbeats 40000000
namespace Go.Proofs.YtglepipfdmphhaaGreatDoor
set_option linter.unusedVariables false
set_option linter.unusedSimpArgs false
open Go Go.RowKit Go.Shelf
attribute [local irreducible] Go.wpStill
theorem rowAll (p:RwP) (er5_1234:RowS p 5 [1,2,3,4] 1 35184372088831):RowS p 0 [] 19 4268945342239:=by
 have er4_1234:=r4_1234 p er5_1234
 have er4_123:=r4_123 p er4_1234
 have er3_1234:=r3_1234 p er4_1234
 have er3_123:=r3_123 p er4_123 er3_1234
 have er3_124:=r3_124 p er3_1234
 have er3_12:=r3_12 p er3_123 er3_124
 have er2_1234:=r2_1234 p er3_1234
 have er2_123:=r2_123 p er3_123 er2_1234
 have er2_124:=r2_124 p er3_124 er2_1234
 have er2_134:=r2_134 p er2_1234
 have er2_12:=r2_12 p er3_12 er2_123 er2_124
 have er2_13:=r2_13 p er2_123 er2_134
 have er2_14:=r2_14 p er2_124 er2_134
 have er2_1:=r2_1 p er2_12 er2_13 er2_14
 have er1_1234:=r1_1234 p er2_1234
 have er1_123:=r1_123 p er2_123 er1_1234
 have er1_124:=r1_124 p er2_124 er1_1234
 have er1_134:=r1_134 p er2_134 er1_1234
 have er1_234:=r1_234 p er1_1234
 have er1_12:=r1_12 p er2_12 er1_123 er1_124
 have er1_13:=r1_13 p er2_13 er1_123 er1_134
 have er1_14:=r1_14 p er2_14 er1_124 er1_134
 have er1_23:=r1_23 p er1_123 er1_234
 have er1_24:=r1_24 p er1_124 er1_234
 have er1_34:=r1_34 p er1_134 er1_234
 have er1_1:=r1_1 p er2_1 er1_12 er1_13 er1_14
 have er1_2:=r1_2 p er1_12 er1_23 er1_24
 have er1_3:=r1_3 p er1_13 er1_23 er1_34
 have er1_4:=r1_4 p er1_14 er1_24 er1_34
 have er1_:=r1_ p er1_1 er1_2 er1_3 er1_4
 have er0_1234:=r0_1234 p er1_1234
 have er0_123:=r0_123 p er1_123 er0_1234
 have er0_124:=r0_124 p er1_124 er0_1234
 have er0_134:=r0_134 p er1_134 er0_1234
 have er0_234:=r0_234 p er1_234 er0_1234
 have er0_12:=r0_12 p er1_12 er0_123 er0_124
 have er0_13:=r0_13 p er1_13 er0_123 er0_134
 have er0_14:=r0_14 p er1_14 er0_124 er0_134
 have er0_23:=r0_23 p er1_23 er0_123 er0_234
 have er0_24:=r0_24 p er1_24 er0_124 er0_234
 have er0_34:=r0_34 p er1_34 er0_134 er0_234
 have er0_1:=r0_1 p er1_1 er0_12 er0_13 er0_14
 have er0_2:=r0_2 p er1_2 er0_12 er0_23 er0_24
 have er0_3:=r0_3 p er1_3 er0_13 er0_23 er0_34
 have er0_4:=r0_4 p er1_4 er0_14 er0_24 er0_34
 have er0_:=r0_ p er1_ er0_1 er0_2 er0_3 er0_4
 exact er0_
end Go.Proofs.YtglepipfdmphhaaGreatDoor
namespace Go.Proofs.YtglepipfdmphhaaGreatDoor
set_option linter.unusedVariables false
set_option linter.unusedSimpArgs false
open Go Go.RowKit Go.Shelf
attribute [local irreducible] Go.wpStill
theorem row_r {T:TypeId} (hT:Bty T 2) {w0:World} (HL:Hid (Laid w0)) {b deep:Nat} (HD:Hid (deep≤10)) (HB0:Hid (w0.heap.size≤b)) {w:World} (HQ:Hid (Chg [] w0 w)) {bad:Bool} {out:Bytes} {v:Value} (HW:Hid (Wst T b deep bad out v w)) (r:Pr.Rw) (ao:Option Addr) (cap n:Nat) (HN:Hid (r.marks.length=n)) (HM:Hid (RdS 3 Pr.RMk w0 (.slice ao n cap) r.marks))
 (HRI:Hid (Pr.I64 r.x∧Pr.I64 r.y∧Pr.I64 r.f∧Pr.I64 r.t∧Pr.I64 r.step)) (HRN:Hid (r.name.length≤1000)) (HRM:Hid (n≤9000)) {R:Ending→World→Prop}
 (h:∀ v' w',Wst T b deep (bad || !Pr.rowOk r) (Pr.put deep out (Pr.rowS r)) v' w'→Wr b v w v' w'→R (.returned (.tuple #[])) w') :
 Calls Tryz.prog 41 #[.pointer (some ⟨b,0,none⟩),.agg #[.string ⟨r.name.toArray⟩,.int .i64 r.x,.int .i64 r.y,.int .i64 r.f,.int .i64 r.t,.int .i64 r.step,.slice ao n cap,.int .i64 r.at_]] w R:=by
 have HR:=hd h
 clear h
 go_enter Tryz.func41,Tryz.ntmps41
 go_upto_region 1 with (fail)
 obtain ⟨w1,hw⟩:∃ W,W=w.alloc (.cells #[.string ⟨r.name.toArray⟩,.int .i64 r.x,.int .i64 r.y,.int .i64 r.f,.int .i64 r.t,.int .i64 r.step,.slice ao n cap,.int .i64 r.at_] 48):=⟨_,rfl⟩
 rw[← hw]
 obtain ⟨M,hM⟩:∃ X,X=w.heap.size:=⟨_,rfl⟩
 rw[← hM]
 have HMB:=newB hw hM
 have C1:=newC hw
 have HW1:=hd (HW.out.quiet C1.out)
 have HQ1:Hid (Chg [] w0 w1):=hd (HQ.out.trans C1.out (by simp))
 have NM:M≠b:=by have:=HW.out.lt;omega
 clear hw hM
 refine wp_region_held_drew (S:=fun W'=>Chg [b] w1 W') (by kernel_rfl) (Chg.refl _ _).drew (fun hHeld=>?_)
 obtain ⟨wd,hwd⟩:∃ x,x=w1.drew:=⟨_,rfl⟩
 have CD:Hid (Chg [] w1 wd):=hd (by rw[hwd];exact (Chg.refl _ _).drew)
 rw[← hwd] at hHeld ⊢
 clear hwd
 refine tq 0 ?_
 refine tq 1 ?_
 refine tq 2 ?_
 refine tq 3 ?_
 refine tq1 4 (fun w9 hSw=>cell_quiet hSw (HMB.out.cell (i:=0) rfl) (by simp[NM])) ?_
 refine tq 8 ?_
 refine tq 9 ?_
 refine tq 10 ?_
 refine tq 11 ?_
 refine tq1 12 (fun w9 hSw=>cell_quiet hSw (HMB.out.cell (i:=1) rfl) (by simp[NM])) ?_
 refine tq 13 ?_
 refine tq1 14 (fun w9 hSw=>cell_quiet hSw (HMB.out.cell (i:=2) rfl) (by simp[NM])) ?_
 refine tq 19 ?_
 refine tq 20 ?_
 refine tq 21 ?_
 refine tq 22 ?_
 refine tq1 23 (fun w9 hSw=>cell_quiet hSw (HMB.out.cell (i:=3) rfl) (by simp[NM])) ?_
 refine tq 28 ?_
 refine tq 29 ?_
 refine tq 30 ?_
 refine tq 31 ?_
 refine tq1 32 (fun w9 hSw=>cell_quiet hSw (HMB.out.cell (i:=4) rfl) (by simp[NM])) ?_
 refine tq 37 ?_
 refine tq 38 ?_
 refine tq 39 ?_
 refine tq 40 ?_
 refine tq1 41 (fun w9 hSw=>cell_quiet hSw (HMB.out.cell (i:=5) rfl) (by simp[NM])) ?_
 refine name3 (fun O Q0 A0 hO hQ hA=>?_)
 have CC:RowC w0 b w1 r:=⟨HL,HB0,HQ1,HRI,HRN⟩
 have hO2:Hid (RowO O):=hd (by rw[hO.out];unfold RowO;kernel_rfl)
 have HPQ:Hid (∀ c a d x w,Q0 (.panic c) (a.put d x) w→Q0 (.panic c) a w):=hd (by rw[hQ.out];intro c a d x w h;cases d <;> exact h)
 have hA2:Hid (A0=RowA b M r (fun n=>A0.tmps.getD n undef)):=hd (by rw[hA.out];kernel_rfl)
 have e5:RowS ⟨T,b,deep,M,w0,w1,bad,out,v,r,O,Q0,A0,fun n=>A0.tmps.getD n undef,CC,hO2,HPQ,hA2⟩ 5 [1,2,3,4] 1 35184372088831:=(by
  intro w2 d X a HW2 HC2 HA HXX
  show wpAnyH Tryz.prog .any O Q0 (fun W'=>Chg [b] w1 W') 1 _ (frB X [1,2,3,4] (frK d a A0 5)) w2
  replace HW2:Hid (Wst T b deep (((((bad || !Pr.nameOk r.name) || !Pr.numsOk [r.x,r.y]) || !Pr.numsOk [r.f]) || !Pr.numsOk [r.t]) || !Pr.numsOk [r.step]) out v w2):=HW2
  replace HC2:Hid (Chg [b] w1 w2):=HC2
  replace HA:Hid (a=Pr.tRow++r.name++Pr.tAt++Pr.nums [r.x,r.y]++Pr.tSeats++Pr.nums [r.f]++Pr.tTo++Pr.nums [r.t]++Pr.tStep++Pr.nums [r.step]∧a.length≤1500):=HA
  clear HXX hA2 HPQ
  rw[hO.out,hQ.out,hA.out]
  simp only[frB,frK,frD,frL,pts,frT,List.foldl_cons,List.foldl_nil,Nat.reduceBEq,cond_true,cond_false,qq]
  have hHeld:=HC2.out
  refine tq 45 ?_
  refine dq ?_
  clear hO hQ hA
  go_upto_region 3 with (fail)
  obtain ⟨w3,hw3⟩:∃ W,W=w2.alloc (.cells #[.string ⟨#[]⟩,.string ⟨#[32,103,97,112]⟩,.string ⟨#[32,119,104,101,101,108]⟩,.string ⟨#[32,104,105,100,100,101,110]⟩,.string ⟨#[32,98,101,115,105,100,101]⟩] 155):=⟨_,rfl⟩
  rw[← hw3]
  obtain ⟨D,hD⟩:∃ X,X=w2.heap.size:=⟨_,rfl⟩
  rw[← hD]
  have HDB:=newB hw3 hD
  have C3:=newC hw3
  have ND:D≠b:=by have:=HW2.out.lt;omega
  have HC23:Hid (Chg [b] w1 w3):=hd (HC2.out.trans C3.out (by simp))
  have HQ3:Hid (Chg [] w0 w3):=hd (HQ1.out.since HC23.out HB0.out)
  have HW3:=hd (HW2.out.quiet C3.out)
  obtain ⟨q5,hq5⟩:∃ q,q=(((((bad || !Pr.nameOk r.name) || !Pr.numsOk [r.x,r.y]) || !Pr.numsOk [r.f]) || !Pr.numsOk [r.t]) || !Pr.numsOk [r.step]):=⟨_,rfl⟩
  rw[← hq5] at HW3
  have HQ5:=hd hq5
  have c6:=(HC23.out.blk HMB.out (by simp[NM])).cell (i:=6) rfl
  clear hw3 hD hq5 HW2 C3
  go_wp2_with fail
  clear c6
  go_loopw [4,57] (fun s i wr=>∃ (j:Nat) (acc:Bytes),i = .int .i64 (j:Int)∧s = .string ⟨acc.toArray⟩∧j≤n∧Hid (acc=Pr.rowH r++(r.marks.take j).flatMap Pr.markS∧acc.length≤1500+100*j)∧Hid (Wst T b deep (q5 || !(r.marks.take j).all Pr.markOk) out v wr)∧Hid (Chg [b] w3 wr)) (fun _ i _=>n - intN i)
  case atStart=>exact ⟨0,a,rfl,rfl,Nat.zero_le _,hd ⟨by rw[HA.out.1];simp[Pr.rowH],HA.out.2⟩,hd (by simpa using HW3.out),hd (Chg.refl _ _)⟩
  case round =>
   obtain ⟨j,acc,rfl,rfl,hj,HAC,HWJ,HC⟩:=hrel
   obtain ⟨qj,hqj⟩:∃ q,q=(q5 || !(r.marks.take j).all Pr.markOk):=⟨_,rfl⟩
   rw[← hqj] at HWJ
   have HQJ:=hd hqj
   clear hqj
   by_cases hlt:j < n
   · obtain ⟨m,hm⟩:∃ m,r.marks[j]? = some m:=⟨r.marks[j]'(by rw[HN.out];exact hlt),by simp⟩
     obtain ⟨g,off,cs,rfl,hgl,hl,⟨hcs,i1,i2,i3⟩,hcell⟩:=(HM.out.keep Pr.kq_mk (HQ3.out.since HC.out HB0.out)).elem hm
     have k0:wr.cell? ⟨g,off+j*3,none⟩=some (.int .i64 m.kind):=hcell 0 _ (by rw[hcs];rfl)
     have k1:wr.cell? ⟨g,off+j*3+1,none⟩=some (.int .i64 m.seat):=hcell 1 _ (by rw[hcs];rfl)
     have k2:wr.cell? ⟨g,off+j*3+2,none⟩=some (.int .i64 m.w):=hcell 2 _ (by rw[hcs];rfl)
     have HI1:=hd i2
     have HI2:=hd i3
     have htk:r.marks.take (j+1)=r.marks.take j++[m]:=by obtain ⟨hj2,rfl⟩:=List.getElem?_eq_some_iff.1 hm;exact List.take_succ_eq_append_getElem hj2
     have HTK:=hd htk
     have hmem:m ∈ r.marks:=List.mem_of_getElem? hm
     have q1:(j:Int) < (n:Int):=by omega
     have q0:(0:Int)≤(j:Int):=by omega
     have q2:(j:Int) < (cap:Int)∨True:=.inr trivial
     have hrm:=HRM.out
     clear hm hcell hcs hl hgl htk q2
     go_upto_region 6 with (fail)
     obtain ⟨w4,hw4⟩:∃ W,W=wr.alloc (.cells #[.int .i64 m.kind,.int .i64 m.seat,.int .i64 m.w] 45):=⟨_,rfl⟩
     rw[← hw4]
     obtain ⟨G,hG⟩:∃ X,X=wr.heap.size:=⟨_,rfl⟩
     rw[← hG]
     have HG:=newB hw4 hG
     have C4:=newC hw4
     have HC4:Hid (Chg [b] w3 w4):=hd (HC.out.trans C4.out (by simp))
     have NG:G≠b:=by have:=HWJ.out.lt;omega
     clear hw4 hG k0 k1 k2
     have g0:=HG.out.cell (i:=0) rfl
     have g2:=HG.out.cell (i:=2) rfl
     have HNOK:Hid (Pr.markOk m=false→(bad || !Pr.rowOk r)=true):=hd (fun h=>by have h2:r.marks.all Pr.markOk=false:=List.all_eq_false.2 ⟨m,hmem,by rw[h];decide⟩;unfold Pr.rowOk;rw[h2];simp)
     by_cases hk1:m.kind < 1
     · have HBAD:Hid ((bad || !Pr.rowOk r)=true):=hd (HNOK.out (by unfold Pr.markOk;rw[decide_eq_false (by omega)];rfl))
       have f3:=(HWJ.out.quiet C4.out).cell3.1
       have f4:=(HWJ.out.quiet C4.out).cell3.2
       go_wp2_with fail
       (try simp only[Exit.inBlock,Exit.then])
       refine bodyPost_ret (results_none rfl _ _ _) rfl ?_
       refine HR.out v _ (by rw[HBAD.out];exact HWJ.out.quiet C4.out |>.setBad) (Wr.cell ?_)
       exact ((C1.out.mono (by simp)).trans (HC23.out.trans HC4.out (fun q hq=>.inl hq)) (fun q hq=>.inl hq)).setCell _ _ (.inl (by simp))
     by_cases hk4:4 < m.kind
     · have HBAD:Hid ((bad || !Pr.rowOk r)=true):=hd (HNOK.out (by unfold Pr.markOk;rw[decide_eq_false (p:=m.kind≤4) (by omega)];simp))
       have f3:=(HWJ.out.quiet C4.out).cell3.1
       have f4:=(HWJ.out.quiet C4.out).cell3.2
       go_wp2_with fail
       (try simp only[Exit.inBlock,Exit.then])
       refine bodyPost_ret (results_none rfl _ _ _) rfl ?_
       refine HR.out v _ (by rw[HBAD.out];exact HWJ.out.quiet C4.out |>.setBad) (Wr.cell ?_)
       exact ((C1.out.mono (by simp)).trans (HC23.out.trans HC4.out (fun q hq=>.inl hq)) (fun q hq=>.inl hq)).setCell _ _ (.inl (by simp))
     by_cases hkw:m.kind≠4∧m.w≠0
     · have HBAD:Hid ((bad || !Pr.rowOk r)=true):=hd (HNOK.out (by unfold Pr.markOk;rw[decide_eq_false (p:=m.kind=4∨m.w=0) (by rintro (h|h);exact hkw.1 h;exact hkw.2 h)];simp))
       have e4:((m.kind:Int) == 4)=false:=by rw[beq_eq_false_iff_ne];exact hkw.1
       have e0:((m.w:Int) == 0)=false:=by rw[beq_eq_false_iff_ne];exact hkw.2
       have z4:(m.kind != 4)=true:=by rw[bne_iff_ne];exact hkw.1
       have z0:(m.w != 0)=true:=by rw[bne_iff_ne];exact hkw.2
       clear hkw e4 e0
       have f3:=(HWJ.out.quiet C4.out).cell3.1
       have f4:=(HWJ.out.quiet C4.out).cell3.2
       go_wp2_with fail
       (try simp only[Exit.inBlock,Exit.then])
       refine bodyPost_ret (results_none rfl _ _ _) rfl ?_
       refine HR.out v _ (by rw[HBAD.out];exact HWJ.out.quiet C4.out |>.setBad) (Wr.cell ?_)
       exact ((C1.out.mono (by simp)).trans (HC23.out.trans HC4.out (fun q hq=>.inl hq)) (fun q hq=>.inl hq)).setCell _ _ (.inl (by simp))
     obtain ⟨kn,hkn⟩:∃ kn:Nat,m.kind=(kn:Int):=⟨m.kind.toNat,by omega⟩
     clear g0
     by_cases h44:kn=4
     · skip
       have p1:¬ (kn:Int) < 1:=by omega
       have p4:¬ (4:Int) < (kn:Int):=by omega
       have pz:(0:Int)≤(kn:Int):=by omega
       have p5:(kn:Int) < 5:=by omega
       have pi:((kn:Int)).toNat=kn:=by omega
       have e4:((kn:Int) == 4)=true:=by rw[beq_iff_eq];omega
       have z4:(kn:Int)=4:=by omega
       have HE4:=hd e4
       have HK4:Hid (m.kind=4):=hd (by omega)
       clear h44
       have HKN:=hd hkn
       have HKR:Hid (1≤m.kind∧m.kind≤4):=hd ⟨by omega,by omega⟩
       rw[hkn] at HG
       have g0:=HG.out.cell (i:=0) rfl
       clear hkn hk1 hk4 hkw
       go_upto_region 8 with (fail)
       clear g0 g2 e4 z4
       have HMW:Hid (w4.cell? ⟨D,kn,none⟩=some (.string ⟨(Pr.markW (kn:Int)).toArray⟩)∧(Pr.markW (kn:Int)).length≤7):=hd (by
        have h1:=HC4.out.blk HDB.out (by simp[ND])
        have h2:kn=1∨kn=2∨kn=3∨kn=4:=by omega
        rcases h2 with rfl|rfl|rfl|rfl
        · exact ⟨h1.cell (i:=1) rfl,by decide⟩
        · exact ⟨h1.cell (i:=2) rfl,by decide⟩
        · exact ⟨h1.cell (i:=3) rfl,by decide⟩
        exact ⟨h1.cell (i:=4) rfl,by decide⟩)
       obtain ⟨mw,hmw⟩:∃ mw,mw=Pr.markW (kn:Int):=⟨_,rfl⟩
       rw[← hmw] at HMW
       have HMV:=hd hmw
       clear hmw
       have HQ4:Hid (Chg [] w0 w4):=hd (HQ3.out.since HC4.out HB0.out)
       refine wp_region_held_drew (S:=fun W'=>Chg [b] w4 W') (by kernel_rfl) (Chg.refl _ _).drew (fun hHeld=>?_)
       obtain ⟨wd,hwd⟩:∃ x,x=w4.drew:=⟨_,rfl⟩
       have CDd:Hid (Chg [] w4 wd):=hd (by rw[hwd];exact (Chg.refl _ _).drew)
       have CDb:Hid (Chg [b] w4 wd):=hd (CDd.out.mono (by simp))
       rw[← hwd] at hHeld ⊢
       clear hwd
       have HWd:=hd ((HWJ.out.quiet C4.out).quiet CDd.out)
       refine tq 0 ?_
       refine tq 1 ?_
       refine tq1 2 (fun w9 hSw=>cell_quiet hSw (HG.out.cell (i:=0) rfl) (by simp[NG])) ?_
       refine tq 3 ?_
       refine tq1 4 (fun w9 hSw=>cell_quiet hSw HMW.out.1 (by simp[ND])) ?_
       refine tq 5 ?_
       refine tq 6 ?_
       refine tq 7 ?_
       refine tq 8 ?_
       refine tq1 9 (fun w9 hSw=>cell_quiet hSw (HG.out.cell (i:=1) rfl) (by simp[NG])) ?_
       refine rd1 10 (fun K hK=>?_)
       go_simp
       obtain ⟨w5b,hw5b⟩:∃ W,W=wd.alloc (.cells #[.int .i64 m.seat] 3):=⟨_,rfl⟩
       rw[← hw5b]
       obtain ⟨Yf,hYf⟩:∃ X,X=wd.heap.size:=⟨_,rfl⟩
       rw[← hYf]
       have HBYf:=newB hw5b hYf
       have Cw5b:=newC hw5b
       have NYf:Hid (Yf≠b):=hd (by have:=HWd.out.lt;omega)
       have Hw5b:=hd (CDb.out.trans Cw5b.out (by simp))
       refine kq hK Hw5b.out (fun hHeld=>?_)
       clear hw5b hYf
       refine rd1 11 (fun K hK=>?_)
       go_simp
       refine numbers_r HL HB0 (hd (HQ4.out.since Hw5b.out HB0.out)) (hd (HWd.out.quiet Cw5b.out)) [m.seat] 1 ⟨rfl,by decide⟩ (by intro q hq;rw[List.mem_singleton] at hq;rw[hq];exact HI1.out) HBYf.out NYf.out (fun w5 h3 h4=>?_)
       have HWw5:=hd h3
       have Hw5:=hd (Hw5b.out.trans h4 (fun q hq=>.inl hq))
       refine kq hK Hw5.out (fun hHeld=>?_)
       clear h3 h4
       have gnw5:(Pr.nums [m.seat]).length≤22:=Pr.nums_len [m.seat] (by intro q hq;rw[List.mem_singleton] at hq;rw[hq];exact HI1.out)
       obtain ⟨nnw5,hnn⟩:∃ nn,nn=Pr.nums [m.seat]:=⟨_,rfl⟩
       rw[← hnn] at gnw5
       rw[← hnn]
       have HNw5:=hd hnn
       clear hnn
       have gm:=HMW.out.2
       have ga:=HAC.out.2
       have g1:¬ 9223372036854775807 < mw.length+nnw5.length:=by omega
       refine tq 12 ?_
       rw[str2]
       have gz:(⟨(mw++nnw5).toArray⟩:ByteArray).size=mw.length+nnw5.length:=by rw[size_of9,List.length_append]
       have g3:¬ 9223372036854775807 < acc.length+(mw.length+nnw5.length):=by omega
       refine tq 13 ?_
       rw[str2]
       refine tq 14 ?_
       refine dq ?_
       clear hHeld g1 gz g3
       obtain ⟨ac2,hac2⟩:∃ x,x=acc++(mw++nnw5):=⟨_,rfl⟩
       rw[← hac2]
       have HA2:Hid (ac2=acc++(mw++nnw5)∧ac2.length≤1500+100*j+29):=hd ⟨hac2,by rw[hac2,List.length_append,List.length_append];omega⟩
       clear hac2
       have g0:=(Hw5.out.blk HG.out (by simp[NG])).cell (i:=0) rfl
       have e4:=HE4.out
       have z4:(kn:Int)=4:=by rw[beq_iff_eq] at e4;exact e4
       go_upto_region 10 with (fail)
       clear g0 e4 z4
       have HQ5b:Hid (Chg [] w0 w5):=hd (HQ4.out.since Hw5.out HB0.out)
       have HG5:=hd (Hw5.out.blk HG.out (by simp[NG]))
       refine wp_region_held_drew (S:=fun W'=>Chg [b] w5 W') (by kernel_rfl) (Chg.refl _ _).drew (fun hHeld=>?_)
       obtain ⟨we,hwe⟩:∃ x,x=w5.drew:=⟨_,rfl⟩
       have CDe:Hid (Chg [] w5 we):=hd (by rw[hwe];exact (Chg.refl _ _).drew)
       have CDc:Hid (Chg [b] w5 we):=hd (CDe.out.mono (by simp))
       rw[← hwe] at hHeld ⊢
       clear hwe
       have HWe:=hd (HWw5.out.quiet CDe.out)
       refine tq 0 ?_
       refine tq 1 ?_
       refine tq 2 ?_
       refine tq 3 ?_
       refine tq 4 ?_
       refine tq1 5 (fun w9 hSw=>cell_quiet hSw (HG5.out.cell (i:=2) rfl) (by simp[NG])) ?_
       refine rd1 6 (fun K hK=>?_)
       go_simp
       obtain ⟨w6b,hw6b⟩:∃ W,W=we.alloc (.cells #[.int .i64 m.w] 3):=⟨_,rfl⟩
       rw[← hw6b]
       obtain ⟨Yo,hYo⟩:∃ X,X=we.heap.size:=⟨_,rfl⟩
       rw[← hYo]
       have HBYo:=newB hw6b hYo
       have Cw6b:=newC hw6b
       have NYo:Hid (Yo≠b):=hd (by have:=HWe.out.lt;omega)
       have Hw6b:=hd (CDc.out.trans Cw6b.out (by simp))
       refine kq hK Hw6b.out (fun hHeld=>?_)
       clear hw6b hYo
       refine rd1 7 (fun K hK=>?_)
       go_simp
       refine numbers_r HL HB0 (hd (HQ5b.out.since Hw6b.out HB0.out)) (hd (HWe.out.quiet Cw6b.out)) [m.w] 1 ⟨rfl,by decide⟩ (by intro q hq;rw[List.mem_singleton] at hq;rw[hq];exact HI2.out) HBYo.out NYo.out (fun w6 h3 h4=>?_)
       have HWw6:=hd h3
       have Hw6:=hd (Hw6b.out.trans h4 (fun q hq=>.inl hq))
       refine kq hK Hw6.out (fun hHeld=>?_)
       clear h3 h4
       have gnw6:(Pr.nums [m.w]).length≤22:=Pr.nums_len [m.w] (by intro q hq;rw[List.mem_singleton] at hq;rw[hq];exact HI2.out)
       obtain ⟨nnw6,hnn⟩:∃ nn,nn=Pr.nums [m.w]:=⟨_,rfl⟩
       rw[← hnn] at gnw6
       rw[← hnn]
       have HNw6:=hd hnn
       clear hnn
       have ga2:=HA2.out.2
       have g1:¬ 9223372036854775807 < 3+nnw6.length:=by omega
       refine tq 8 ?_
       rw[show (⟨#[32,111,102]⟩:ByteArray)++⟨nnw6.toArray⟩=⟨(Pr.tOf++nnw6).toArray⟩ from str2 _ _]
       have gz:(⟨(Pr.tOf++nnw6).toArray⟩:ByteArray).size=3+nnw6.length:=by rw[size_of9,List.length_append];rfl
       have gy:(Pr.tOf++nnw6).length=3+nnw6.length:=by rw[List.length_append];rfl
       have g3:¬ 9223372036854775807 < ac2.length+(Pr.tOf++nnw6).length:=by omega
       have g4:¬ 9223372036854775807 < ac2.length+(3+nnw6.length):=by omega
       refine tq 9 ?_ (hy:=by intro w9 hSw;(try simp only[List.length_append] at g3);go_simp;try with_reducible rfl)
       rw[str2]
       refine tq 10 ?_
       refine dq ?_
       clear hHeld g1 gz g3 g4
       have gy2:=gy
       clear gy
       have HRL:Hid (Chg [b] w3 w6):=hd ((HC4.out.trans Hw5.out (fun q hq=>.inl hq)).trans Hw6.out (fun q hq=>.inl hq))
       go_wp2_with fail
       go_roundw
       case rel=>exact ⟨j+1,ac2++(Pr.tOf++nnw6),vint (by omega),rfl,by omega,hd ⟨by rw[HA2.out.1,HAC.out.1,HTK.out,HMV.out,HNw5.out,HNw6.out,← HKN.out,List.flatMap_append,List.flatMap_singleton,Pr.markS_4 HK4.out];simp only[List.append_assoc],by rw[List.length_append,gy2];omega⟩,hd (by rw[HTK.out,List.all_append,List.all_cons,List.all_nil,Bool.and_true,Pr.markOk_4 HK4.out,Bool.not_and,Bool.not_and,← Bool.or_assoc,← HQJ.out,← Bool.or_assoc];have h9:=HWw6.out;rw[Pr.numsOk_1,Pr.numsOk_1] at h9;exact h9),HRL⟩
       case measure=>simp[intN];omega
     have p1:¬ (kn:Int) < 1:=by omega
     have p4:¬ (4:Int) < (kn:Int):=by omega
     have pz:(0:Int)≤(kn:Int):=by omega
     have p5:(kn:Int) < 5:=by omega
     have pi:((kn:Int)).toNat=kn:=by omega
     have e4:((kn:Int) == 4)=false:=by rw[beq_eq_false_iff_ne];omega
     have z4:¬ (kn:Int)=4:=by omega
     have HE4:=hd e4
     have z0:m.w=0:=Decidable.byContradiction (fun h=>hkw ⟨by omega,h⟩)
     have HK4:Hid (m.kind≠4∧m.w=0):=hd ⟨by omega,Decidable.byContradiction (fun h=>hkw ⟨by omega,h⟩)⟩
     have e0:((m.w:Int) == 0)=true:=by rw[beq_iff_eq];exact HK4.out.2
     clear h44
     have HKN:=hd hkn
     have HKR:Hid (1≤m.kind∧m.kind≤4):=hd ⟨by omega,by omega⟩
     rw[hkn] at HG
     have g0:=HG.out.cell (i:=0) rfl
     clear hkn hk1 hk4 hkw
     go_upto_region 8 with (fail)
     clear g0 g2 e4 z4
     have HMW:Hid (w4.cell? ⟨D,kn,none⟩=some (.string ⟨(Pr.markW (kn:Int)).toArray⟩)∧(Pr.markW (kn:Int)).length≤7):=hd (by
      have h1:=HC4.out.blk HDB.out (by simp[ND])
      have h2:kn=1∨kn=2∨kn=3∨kn=4:=by omega
      rcases h2 with rfl|rfl|rfl|rfl
      · exact ⟨h1.cell (i:=1) rfl,by decide⟩
      · exact ⟨h1.cell (i:=2) rfl,by decide⟩
      · exact ⟨h1.cell (i:=3) rfl,by decide⟩
      exact ⟨h1.cell (i:=4) rfl,by decide⟩)
     obtain ⟨mw,hmw⟩:∃ mw,mw=Pr.markW (kn:Int):=⟨_,rfl⟩
     rw[← hmw] at HMW
     have HMV:=hd hmw
     clear hmw
     have HQ4:Hid (Chg [] w0 w4):=hd (HQ3.out.since HC4.out HB0.out)
     refine wp_region_held_drew (S:=fun W'=>Chg [b] w4 W') (by kernel_rfl) (Chg.refl _ _).drew (fun hHeld=>?_)
     obtain ⟨wd,hwd⟩:∃ x,x=w4.drew:=⟨_,rfl⟩
     have CDd:Hid (Chg [] w4 wd):=hd (by rw[hwd];exact (Chg.refl _ _).drew)
     have CDb:Hid (Chg [b] w4 wd):=hd (CDd.out.mono (by simp))
     rw[← hwd] at hHeld ⊢
     clear hwd
     have HWd:=hd ((HWJ.out.quiet C4.out).quiet CDd.out)
     refine tq 0 ?_
     refine tq 1 ?_
     refine tq1 2 (fun w9 hSw=>cell_quiet hSw (HG.out.cell (i:=0) rfl) (by simp[NG])) ?_
     refine tq 3 ?_
     refine tq1 4 (fun w9 hSw=>cell_quiet hSw HMW.out.1 (by simp[ND])) ?_
     refine tq 5 ?_
     refine tq 6 ?_
     refine tq 7 ?_
     refine tq 8 ?_
     refine tq1 9 (fun w9 hSw=>cell_quiet hSw (HG.out.cell (i:=1) rfl) (by simp[NG])) ?_
     refine rd1 10 (fun K hK=>?_)
     go_simp
     obtain ⟨w5b,hw5b⟩:∃ W,W=wd.alloc (.cells #[.int .i64 m.seat] 3):=⟨_,rfl⟩
     rw[← hw5b]
     obtain ⟨Yg,hYg⟩:∃ X,X=wd.heap.size:=⟨_,rfl⟩
     rw[← hYg]
     have HBYg:=newB hw5b hYg
     have Cw5b:=newC hw5b
     have NYg:Hid (Yg≠b):=hd (by have:=HWd.out.lt;omega)
     have Hw5b:=hd (CDb.out.trans Cw5b.out (by simp))
     refine kq hK Hw5b.out (fun hHeld=>?_)
     clear hw5b hYg
     refine rd1 11 (fun K hK=>?_)
     go_simp
     refine numbers_r HL HB0 (hd (HQ4.out.since Hw5b.out HB0.out)) (hd (HWd.out.quiet Cw5b.out)) [m.seat] 1 ⟨rfl,by decide⟩ (by intro q hq;rw[List.mem_singleton] at hq;rw[hq];exact HI1.out) HBYg.out NYg.out (fun w5 h3 h4=>?_)
     have HWw5:=hd h3
     have Hw5:=hd (Hw5b.out.trans h4 (fun q hq=>.inl hq))
     refine kq hK Hw5.out (fun hHeld=>?_)
     clear h3 h4
     have gnw5:(Pr.nums [m.seat]).length≤22:=Pr.nums_len [m.seat] (by intro q hq;rw[List.mem_singleton] at hq;rw[hq];exact HI1.out)
     obtain ⟨nnw5,hnn⟩:∃ nn,nn=Pr.nums [m.seat]:=⟨_,rfl⟩
     rw[← hnn] at gnw5
     rw[← hnn]
     have HNw5:=hd hnn
     clear hnn
     have gm:=HMW.out.2
     have ga:=HAC.out.2
     have g1:¬ 9223372036854775807 < mw.length+nnw5.length:=by omega
     refine tq 12 ?_
     rw[str2]
     have gz:(⟨(mw++nnw5).toArray⟩:ByteArray).size=mw.length+nnw5.length:=by rw[size_of9,List.length_append]
     have g3:¬ 9223372036854775807 < acc.length+(mw.length+nnw5.length):=by omega
     refine tq 13 ?_
     rw[str2]
     refine tq 14 ?_
     refine dq ?_
     clear hHeld g1 gz g3
     obtain ⟨ac2,hac2⟩:∃ x,x=acc++(mw++nnw5):=⟨_,rfl⟩
     rw[← hac2]
     have HA2:Hid (ac2=acc++(mw++nnw5)∧ac2.length≤1500+100*j+29):=hd ⟨hac2,by rw[hac2,List.length_append,List.length_append];omega⟩
     clear hac2
     have g0:=(Hw5.out.blk HG.out (by simp[NG])).cell (i:=0) rfl
     have e4:=HE4.out
     have z4:¬ (kn:Int)=4:=by rw[beq_eq_false_iff_ne] at e4;exact e4
     have HRL:Hid (Chg [b] w3 w5):=hd (HC4.out.trans Hw5.out (fun q hq=>.inl hq))
     go_wp2_with fail
     go_roundw
     case rel=>exact ⟨j+1,ac2,vint (by omega),rfl,by omega,hd ⟨by rw[HA2.out.1,HAC.out.1,HTK.out,HMV.out,HNw5.out,← HKN.out,List.flatMap_append,List.flatMap_singleton,Pr.markS_n HK4.out.1,List.append_assoc],by have:=HA2.out.2;omega⟩,hd (by rw[HTK.out,List.all_append,List.all_cons,List.all_nil,Bool.and_true,Pr.markOk_n HKR.out.1 HKR.out.2 HK4.out.2,Bool.not_and,← Bool.or_assoc,← HQJ.out];have h9:=HWw5.out;rw[Pr.numsOk_1] at h9;exact h9),HRL⟩
     case measure=>simp[intN];omega
   have q1:¬ (j:Int) < (n:Int):=by omega
   have hjn:r.marks.take j=r.marks:=List.take_of_length_le (by rw[HN.out];omega)
   rw[hjn] at HAC HQJ
   clear hjn
   have hrm:=HRM.out
   have ga:=HAC.out.2
   have g1:¬ 9223372036854775807 < acc.length+1:=by omega
   have gl:(acc++[59]).length≤1000000:=by rw[List.length_append];show _+1≤_;omega
   have HGL:=hd gl
   clear ga hrm gl
   go_wp2_with fail
   rw[show (⟨acc.toArray⟩:ByteArray)++⟨#[59]⟩=⟨(acc++[59]).toArray⟩ from str2 _ _]
   refine line_r hT HD.out HWJ (acc++[59]) HGL.out (fun v7 w7 h7 h8=>?_)
   have HBQ:Hid (qj=(bad || !Pr.rowOk r)):=hd (by rw[HQJ.out,HQ5.out];exact Pr.row_bad bad r)
   have HRS:Hid (acc++[59]=Pr.rowS r):=hd (by rw[HAC.out.1];rfl)
   rw[HBQ.out,HRS.out] at h7
   have H7:=hd h7
   have H8:Hid (Wr b v w v7 w7):=hd ((Wr.cell ((C1.out.mono (by simp)).trans (HC23.out.trans HC.out (fun q hq=>.inl hq)) (fun q hq=>.inl hq))).trans h8)
   clear h7 h8
   go_wp2_with fail
   go_end0
   exact HR.out v7 w7 H7.out H8.out)
 exact rowAct (rowAll ⟨T,b,deep,M,w0,w1,bad,out,v,r,O,Q0,A0,fun n=>A0.tmps.getD n undef,CC,hO2,HPQ,hA2⟩ e5 wd (fun _=>undef) (fun _=>0) [] (hd (HW1.out.quiet CD.out)) (hd hHeld) (hd ⟨rfl,by simp⟩) (hd (by simp)))
end Go.Proofs.YtglepipfdmphhaaGreatDoor
