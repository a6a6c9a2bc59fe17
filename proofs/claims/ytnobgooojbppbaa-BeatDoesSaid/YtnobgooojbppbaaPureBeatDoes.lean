/- The reading of the law's call is true. -/
import Derived.Test.YtnobgooojbppbaaOB
import Derived.Test.YtnobgooojbppbaaBeat3
set_option linter.all false
set_option maxRecDepth 100000
namespace Go.Proofs.Ytnobgooojbppbaa.Pure
open Go Go.RowKit Go.Proofs.Ytnobgooojbppbaa.Lift Go.Proofs.Ytnobgooojbppbaa Go.Proofs.Ytnobgooojbppbaa.TB

theorem BeatDoes : ∀ (y0 : Y24) (y1 : Y25), oky24 y0 → oky25 y1 → F TB.T 3 [.agg (ey24 y0), .agg (ey25 y1)] [] = some (.bool true, []) := by
  intro y0 y1 h0 h1
  exact Beat.L_beat y0.f2 y0.f0 y0.f1 y1.f0 y1.f1 y1.f2 h0.2.2.1

end Go.Proofs.Ytnobgooojbppbaa.Pure
