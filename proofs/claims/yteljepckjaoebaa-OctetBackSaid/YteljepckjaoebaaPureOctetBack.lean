/- The reading of the law's call is true. -/
import Derived.Test.YteljepckjaoebaaOOB
import Derived.Test.YteljepckjaoebaaOctBack
set_option linter.all false
set_option linter.unusedSimpArgs false
set_option maxRecDepth 100000
namespace Go.Proofs.Yteljepckjaoebaa.Pure
open Go Go.RowKit Go.Proofs.Yteljepckjaoebaa.Lift Go.Proofs.Yteljepckjaoebaa Go.Proofs.Yteljepckjaoebaa.TOB

theorem OctetBack : ∀ (y0 : Int) (y1 : ByteArray) (y2 : (List Int)), (okInt .i64) y0 → okStr y1 → (okSl (okInt .u8)) y2 → F TOB.T 3 [.int .i64 y0, .str y1, .ro 1 (y2.map (eInt .u8)) false] [] = some (.bool true, []) := fun y0 y1 y2 _ _ h2 => Oct.back y0 y1 y2 (ok_u8 h2)

end Go.Proofs.Yteljepckjaoebaa.Pure
