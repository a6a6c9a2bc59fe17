/- The reading of the law's call is true. -/
import Derived.Test.YtnobgooojbppbaaOS
import Derived.Test.YtnobgooojbppbaaQueue3
set_option linter.all false
set_option linter.unusedSimpArgs false
set_option maxRecDepth 100000
namespace Go.Proofs.Ytnobgooojbppbaa.Pure
open Go Go.RowKit Go.Proofs.Ytnobgooojbppbaa.Lift Go.Proofs.Ytnobgooojbppbaa Go.Proofs.Ytnobgooojbppbaa.TS

theorem QueueDoes : ∀ (y0 : (List Y80)) (y1 : Y25), (okSl ok80) y0 → ok25 y1 → F TS.T 10 [.ro 2 (y0.map e80) false, .agg (e25 y1)] [] = some (.bool true, []) := by
  intro y0 y1 h0 h1
  have h := Queue.L_does (y0.map fun y => (y.f0, y.f1)) y1.f0 y1.f1 y1.f2 (by simpa using h0.1)
  have e : Lift.enc Base.e2 (y0.map fun y => (y.f0, y.f1)) = y0.map e80 := by simp [Lift.enc, e80, eInt, Base.e2]
  rw [e] at h
  exact h

end Go.Proofs.Ytnobgooojbppbaa.Pure
