/- The reading of the law's call is true. -/
import Derived.Test.YtnobgooojbppbaaOF
import Derived.Test.YtnobgooojbppbaaRound
set_option linter.all false
set_option linter.unusedSimpArgs false
set_option maxRecDepth 100000
namespace Go.Proofs.Ytnobgooojbppbaa.Pure
open Go Go.RowKit Go.Proofs.Ytnobgooojbppbaa.Lift Go.Proofs.Ytnobgooojbppbaa Go.Proofs.Ytnobgooojbppbaa.TF

theorem RoundDoes : ∀ (y0 : Y106) (y1 : Int), oky106 y0 → (okInt .i64) y1 → F TF.T 12 [.agg (ey106 y0), .int .i64 y1] [] = some (.bool true, []) := by
  intro y0 y1 h0 h1
  have hb := bounds_i64 h0.1
  exact Round.does y0.f0 (by omega) (by omega) y0.f1 y0.f2 y1

end Go.Proofs.Ytnobgooojbppbaa.Pure
