/- The reading of the law's call is true. -/
import Derived.Test.YtnobgooojbppbaaOS
import Derived.Test.YtnobgooojbppbaaSlots4
set_option linter.all false
set_option linter.unusedSimpArgs false
set_option maxRecDepth 100000
namespace Go.Proofs.Ytnobgooojbppbaa.Pure
open Go Go.RowKit Go.Proofs.Ytnobgooojbppbaa.Lift Go.Proofs.Ytnobgooojbppbaa Go.Proofs.Ytnobgooojbppbaa.TS

theorem SlotsDoes : ∀ (y0 : Y128) (y1 : Y129), oky128 y0 → oky129 y1 → F TS.T 13 [.agg (ey128 y0), .agg (ey129 y1)] [] = some (.bool true, []) := by
  intro y0 y1 h0 h1
  have h := Slots.does y0.f0 (bounds_i64 h0.1).2 (y0.f1.map fun y => (y.f0, y.f1)) (y0.f2.map fun y => (y.f0, y.f1)) (y0.f3.map fun y => (y.f0, y.f1)) y1.f0 y1.f1
  have e1 : Lift.enc Base.e2 (y0.f1.map fun y => (y.f0, y.f1)) = y0.f1.map ey80 := by simp [Lift.enc, ey80, eInt, Base.e2]
  have e2 : ∀ l : List Y134, Lift.enc Base.e2 (l.map fun y => (y.f0, y.f1)) = l.map ey134 := by intro l; simp [Lift.enc, ey134, eInt, Base.e2]
  rw [e1, e2, e2] at h
  exact h

end Go.Proofs.Ytnobgooojbppbaa.Pure
