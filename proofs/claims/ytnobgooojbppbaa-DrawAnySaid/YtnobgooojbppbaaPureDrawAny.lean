/- The reading of the law's call is true. -/
import Derived.Test.YtnobgooojbppbaaOF
import Derived.Test.YtnobgooojbppbaaDraw3
set_option linter.all false
set_option linter.unusedSimpArgs false
set_option maxRecDepth 100000
namespace Go.Proofs.Ytnobgooojbppbaa.Pure
open Go Go.RowKit Go.Proofs.Ytnobgooojbppbaa.Lift Go.Proofs.Ytnobgooojbppbaa Go.Proofs.Ytnobgooojbppbaa.TF

theorem DrawAny : ∀ (y0 : Int) (y1 : (List Int)), (okInt .u64) y0 → (okSl (okInt .i64)) y1 → F TF.T 8 [.int .u64 y0, .ro 1 (y1.map (eInt .i64)) false] [] = some (.bool true, []) := by
  intro y0 y1 h0 h1
  have hb := bounds_u64 h0
  obtain ⟨x, rfl⟩ := Int.eq_ofNat_of_zero_le hb.1
  exact Flock.any x (by omega) y1

end Go.Proofs.Ytnobgooojbppbaa.Pure
