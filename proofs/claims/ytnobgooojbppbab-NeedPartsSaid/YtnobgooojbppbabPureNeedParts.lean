/- The reading of the law's call is true. -/
import Derived.Test.YtnobgooojbppbabOND
import Derived.Test.YtnobgooojbppbabNeed9
set_option linter.all false
set_option linter.unusedSimpArgs false
set_option maxRecDepth 100000
namespace Go.Proofs.Ytnobgooojbppbab.Pure
open Go Go.RowKit Go.Proofs.Ytnobgooojbppbab.Lift Go.Proofs.Ytnobgooojbppbab Go.Proofs.Ytnobgooojbppbab.TND

theorem NeedParts : ∀ (y0 : (List Y94)) (y1 : (List Y94)) (y2 : Int), (okSl oky94) y0 → (okSl oky94) y1 → (okInt .u64) y2 → F TND.T 6 [.ro 2 (y0.map ey94) false, .ro 2 (y1.map ey94) false, .int .u64 y2] [] = some (.bool true, []) := by
  intro y0 y1 y2 h0 h1 h2
  have hb := bounds_u64 h2
  obtain ⟨x, rfl⟩ := Int.eq_ofNat_of_zero_le hb.1
  have h := Need.parts_ok (y0.map fun y => (y.f0, y.f1)) (y1.map fun y => (y.f0, y.f1)) x (by omega)
  have e : ∀ l : List Y94, Lift.enc Base.e2 (l.map fun y => (y.f0, y.f1)) = l.map ey94 := by intro l; simp [Lift.enc, ey94, eInt, Base.e2]
  rw [e, e] at h
  exact h

end Go.Proofs.Ytnobgooojbppbab.Pure
