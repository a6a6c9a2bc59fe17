/- The reading of the law's call is true. -/
import Derived.Test.YtnobgooojbppbacOOC
import Derived.Test.YtnobgooojbppbacMsg3
set_option linter.all false
set_option linter.unusedSimpArgs false
set_option maxRecDepth 100000
namespace Go.Proofs.Ytnobgooojbppbac.Pure
open Go Go.RowKit Go.Proofs.Ytnobgooojbppbac.Lift Go.Proofs.Ytnobgooojbppbac Go.Proofs.Ytnobgooojbppbac.TOC

theorem MsgBack : ∀ (y0 : Y41) (y1 : Y41) (y2 : ByteArray), oky41 y0 → oky41 y1 → okStr y2 → F TOC.T 5 [.agg (ey41 y0), .agg (ey41 y1), .str y2] [] = some (.bool true, []) := by
  intro a b s _ _ _
  exact Oct.back (a.f0, a.f1, a.f2, a.f3) (b.f0, b.f1, b.f2, b.f3) s

end Go.Proofs.Ytnobgooojbppbac.Pure
