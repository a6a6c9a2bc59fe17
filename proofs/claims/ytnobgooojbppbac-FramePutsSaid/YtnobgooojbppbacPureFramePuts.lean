/- The reading of the law's call is true. -/
import Derived.Test.YtnobgooojbppbacOOC
import Derived.Test.YtnobgooojbppbacFrame
set_option linter.all false
set_option linter.unusedSimpArgs false
set_option maxRecDepth 100000
namespace Go.Proofs.Ytnobgooojbppbac.Pure
open Go Go.RowKit Go.Proofs.Ytnobgooojbppbac.Lift Go.Proofs.Ytnobgooojbppbac Go.Proofs.Ytnobgooojbppbac.TOC

theorem FramePuts : ∀ (y0 : (List Int)) (y1 : ByteArray), (okSl (okInt .u8)) y0 → okStr y1 → F TOC.T 9 [.ro 1 (y0.map (eInt .u8)) false, .str y1] [] = some (.bool true, []) := fun y0 y1 h0 _ => Oct.puts y0 (ok_u8 h0) y1

end Go.Proofs.Ytnobgooojbppbac.Pure
