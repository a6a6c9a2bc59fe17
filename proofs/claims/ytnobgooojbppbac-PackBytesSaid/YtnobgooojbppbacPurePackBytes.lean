/- The reading of the law's call is true. -/
import Derived.Test.YtnobgooojbppbacOOC
import Derived.Test.YtnobgooojbppbacPack3
set_option linter.all false
set_option linter.unusedSimpArgs false
set_option maxRecDepth 100000
namespace Go.Proofs.Ytnobgooojbppbac.Pure
open Go Go.RowKit Go.Proofs.Ytnobgooojbppbac.Lift Go.Proofs.Ytnobgooojbppbac Go.Proofs.Ytnobgooojbppbac.TOC

theorem PackBytes : ∀ (y0 : Y51), oky51 y0 → F TOC.T 6 [.agg (ey51 y0)] [] = some (.bool true, []) := by
  intro y _
  obtain ⟨k, f, t, i, pe, se, b⟩ := y
  have h := Oct.packBytes ⟨k, f, t, i, pe, se, sb b⟩ (Oct.sb_range b)
  simp only [Oct.pk, bs_sb] at h
  exact h

end Go.Proofs.Ytnobgooojbppbac.Pure
