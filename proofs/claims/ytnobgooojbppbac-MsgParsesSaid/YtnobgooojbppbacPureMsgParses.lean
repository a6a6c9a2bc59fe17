/- The reading of the law's call is true. -/
import Derived.Test.YtnobgooojbppbacOOC
import Derived.Test.YtnobgooojbppbacMsg3
set_option linter.all false
set_option linter.unusedSimpArgs false
set_option maxRecDepth 100000
namespace Go.Proofs.Ytnobgooojbppbac.Pure
open Go Go.RowKit Go.Proofs.Ytnobgooojbppbac.Lift Go.Proofs.Ytnobgooojbppbac Go.Proofs.Ytnobgooojbppbac.TOC

theorem MsgParses : ∀ (y0 : ByteArray), okStr y0 → F TOC.T 4 [.str y0] [] = some (.bool true, []) := fun y0 _ => Oct.parses y0

end Go.Proofs.Ytnobgooojbppbac.Pure
