/- The reading of the law's call is true. -/
import Derived.Test.YtnobgooojbppbaaOF
import Derived.Test.YtnobgooojbppbaaFlock4
set_option linter.all false
set_option linter.unusedSimpArgs false
set_option maxRecDepth 100000
namespace Go.Proofs.Ytnobgooojbppbaa.Pure
open Go Go.RowKit Go.Proofs.Ytnobgooojbppbaa.Lift Go.Proofs.Ytnobgooojbppbaa Go.Proofs.Ytnobgooojbppbaa.TF

theorem FlockSets : ∀ (y0 : Int) (y1 : Int) (y2 : (List Int)), (okInt .u64) y0 → (okInt .i64) y1 → (okSl (okInt .i64)) y2 → F TF.T 5 [.int .u64 y0, .int .i64 y1, .ro 1 (y2.map (eInt .i64)) false] [] = some (.bool true, []) := by
  intro y0 y1 y2 h0 h1 h2
  have hb := bounds_u64 h0
  obtain ⟨x, rfl⟩ := Int.eq_ofNat_of_zero_le hb.1
  exact Flock.sets x (by omega) y1 y2

end Go.Proofs.Ytnobgooojbppbaa.Pure
