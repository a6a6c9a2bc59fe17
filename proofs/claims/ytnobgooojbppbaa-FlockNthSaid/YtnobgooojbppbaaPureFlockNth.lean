/- The reading of the law's call is true. -/
import Derived.Test.YtnobgooojbppbaaOF
import Derived.Test.YtnobgooojbppbaaFlock4
set_option linter.all false
set_option linter.unusedSimpArgs false
set_option maxRecDepth 100000
namespace Go.Proofs.Ytnobgooojbppbaa.Pure
open Go Go.RowKit Go.Proofs.Ytnobgooojbppbaa.Lift Go.Proofs.Ytnobgooojbppbaa Go.Proofs.Ytnobgooojbppbaa.TF

theorem FlockNth : ∀ (y0 : Int) (y1 : Int), (okInt .u64) y0 → (okInt .i64) y1 → F TF.T 6 [.int .u64 y0, .int .i64 y1] [] = some (.bool true, []) := by
  intro y0 y1 h0 h1
  have hb := bounds_u64 h0
  have hc := bounds_i64 h1
  obtain ⟨x, rfl⟩ := Int.eq_ofNat_of_zero_le hb.1
  exact Flock.nthLaw x (by omega) y1 (by omega) (by omega)

end Go.Proofs.Ytnobgooojbppbaa.Pure
