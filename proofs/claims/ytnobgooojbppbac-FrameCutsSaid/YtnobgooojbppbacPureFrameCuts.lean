/- The reading of the law's call is true. -/
import Derived.Test.YtnobgooojbppbacOOC
import Derived.Test.YtnobgooojbppbacFrame2
set_option linter.all false
set_option linter.unusedSimpArgs false
set_option maxRecDepth 100000
namespace Go.Proofs.Ytnobgooojbppbac.Pure
open Go Go.RowKit Go.Proofs.Ytnobgooojbppbac.Lift Go.Proofs.Ytnobgooojbppbac Go.Proofs.Ytnobgooojbppbac.TOC

theorem FrameCuts : ∀ (y0 : (List Int)), (okSl (okInt .u8)) y0 → F TOC.T 10 [.ro 1 (y0.map (eInt .u8)) false] [] = some (.bool true, []) := fun y0 h0 => Oct.cuts y0 (ok_u8 h0)

end Go.Proofs.Ytnobgooojbppbac.Pure
