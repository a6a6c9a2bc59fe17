/- The reading of the law's call is true. -/
import Derived.Test.YtnobgooojbppbaaOS
import Derived.Test.YtnobgooojbppbaaSlots5
set_option linter.all false
set_option linter.unusedSimpArgs false
set_option maxRecDepth 100000
namespace Go.Proofs.Ytnobgooojbppbaa.Pure
open Go Go.RowKit Go.Proofs.Ytnobgooojbppbaa.Lift Go.Proofs.Ytnobgooojbppbaa Go.Proofs.Ytnobgooojbppbaa.TS

theorem SlotsKeep : ∀ (y0 : Int) (y1 : (List Y25)), (okInt .u8) y0 → (okSl oky25) y1 → F TS.T 14 [.int .u8 y0, .ro 3 (y1.map ey25) false] [] = some (.bool true, []) := by
  intro y0 y1 h0 h1
  have hb : 0 ≤ y0 ∧ y0 ≤ 255 := bounds_u8 h0
  have h := Slots.keep y0 hb.1 hb.2 (y1.map fun y => (y.f0, y.f1, y.f2))
  have e : Lift.enc Slots.e3 (y1.map fun y => (y.f0, y.f1, y.f2)) = y1.map ey25 := by simp [Lift.enc, ey25, eInt, Slots.e3]
  rw [e] at h
  exact h

end Go.Proofs.Ytnobgooojbppbaa.Pure
