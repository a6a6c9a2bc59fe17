/- The reading of the law's call is true. -/
import Derived.Test.YtnobgooojbppbacOOC
import Derived.Test.YtnobgooojbppbacFrame3
set_option linter.all false
set_option linter.unusedSimpArgs false
set_option maxRecDepth 100000
namespace Go.Proofs.Ytnobgooojbppbac.Pure
open Go Go.RowKit Go.Proofs.Ytnobgooojbppbac.Lift Go.Proofs.Ytnobgooojbppbac Go.Proofs.Ytnobgooojbppbac.TOC

theorem FrameTorn : ∀ (y0 : (List ByteArray)) (y1 : Int), (okSl okStr) y0 → (okInt .i64) y1 → F TOC.T 11 [.ro 1 (y0.map eStr) false, .int .i64 y1] [] = some (.bool true, []) := fun y0 y1 h0 _ => Oct.frameTorn y0 (by have := h0.1; simp only [maxLen] at this; omega) y1

end Go.Proofs.Ytnobgooojbppbac.Pure
