/- The reading of the law's call is true. -/
import Derived.Test.YtnobgooojbppbabONJ
import Derived.Test.YtnobgooojbppbabJoin
set_option linter.all false
set_option maxRecDepth 100000
namespace Go.Proofs.Ytnobgooojbppbab.Pure
open Go Go.RowKit Go.Proofs.Ytnobgooojbppbab.Lift Go.Proofs.Ytnobgooojbppbab Go.Proofs.Ytnobgooojbppbab.TNJ

theorem NeedJoins : ∀ (y0 : Int) (y1 : (List (List Y94))), (okInt .i64) y0 → (okSl (okSl oky94)) y1 → F TNJ.T 3 [.int .i64 y0, .ro 1 (y1.map (eSl 2 ey94)) false] [] = some (.bool true, []) := by
  intro y0 y1 h0 h1
  have h := Join.L_joins y0 (y1.map fun l => l.map fun y => (y.f0, y.f1))
  have e : Lift.enc Join.eP (y1.map fun l => l.map fun y => (y.f0, y.f1)) = y1.map (eSl 2 ey94) := by simp [Lift.enc, ey94, eInt, eSl, Base.e2, Function.comp_def]
  rw [e] at h
  exact h

end Go.Proofs.Ytnobgooojbppbab.Pure
