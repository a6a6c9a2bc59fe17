/- The reading of the law's call is true. -/
import Derived.Test.YtnobgooojbppbacOOC
import Derived.Test.YtnobgooojbppbacPack6
set_option linter.all false
set_option linter.unusedSimpArgs false
set_option maxRecDepth 100000
namespace Go.Proofs.Ytnobgooojbppbac.Pure
open Go Go.RowKit Go.Proofs.Ytnobgooojbppbac.Lift Go.Proofs.Ytnobgooojbppbac Go.Proofs.Ytnobgooojbppbac.TOC

theorem PackOpens : ∀ (y0 : ByteArray), okStr y0 → F TOC.T 7 [.str y0] [] = some (.bool true, []) := by
  intro y0 _
  have h := Oct.packOpens (sb y0) (Oct.sb_range y0)
  rw [bs_sb] at h
  exact h

end Go.Proofs.Ytnobgooojbppbac.Pure
