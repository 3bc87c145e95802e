/- Chapter 04: rows of instructions that grow, or are filled; what Decode comes to: plain definitions and facts. Conditions: as each says. -/
import Derived.Test.YthkgakelgdncjaaDoorOm
namespace Go.Proofs.YthkgakelgdncjaaDoor
open Go.Ep Go.RowKit
set_option linter.unusedVariables false
set_option linter.unusedSimpArgs false
theorem joinF_in (k:Nat) (y:IT) (v:IN):joinF k (inF y) (fun _=>inP v)=inF (fun j=>if k≤j then v else y j):=by
 funext j
 by_cases h:k≤j<;>simp [joinF,mergeP,pickP,inF,inP,h]
end Go.Proofs.YthkgakelgdncjaaDoor
