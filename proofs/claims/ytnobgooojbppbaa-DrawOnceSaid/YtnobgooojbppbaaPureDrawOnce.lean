/- The reading of the law's call is true. -/
import Derived.Test.YtnobgooojbppbaaOF
import Derived.Test.YtnobgooojbppbaaDraw2
set_option linter.all false
set_option linter.unusedSimpArgs false
set_option maxRecDepth 100000
namespace Go.Proofs.Ytnobgooojbppbaa.Pure
open Go Go.RowKit Go.Proofs.Ytnobgooojbppbaa.Lift Go.Proofs.Ytnobgooojbppbaa Go.Proofs.Ytnobgooojbppbaa.TF

theorem DrawOnce : ∀ (y0 : (List Int)) (y1 : Int) (y2 : Int), (okSl (okInt .u64)) y0 → (okInt .u64) y1 → (okInt .i64) y2 → F TF.T 7 [.ro 1 (y0.map (eInt .u64)) false, .int .u64 y1, .int .i64 y2] [] = some (.bool true, []) := by
  intro y0 y1 y2 h0 h1 h2
  have hb := bounds_u64 h1
  obtain ⟨x, rfl⟩ := Int.eq_ofNat_of_zero_le hb.1
  exact Flock.once y0 (fun y hy => by have := bounds_u64 (h0.2 y hy); omega) x (by omega) y2

end Go.Proofs.Ytnobgooojbppbaa.Pure
