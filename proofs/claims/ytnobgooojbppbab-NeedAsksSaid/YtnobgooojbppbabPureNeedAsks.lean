/- The reading of the law's call is true. -/
import Derived.Test.YtnobgooojbppbabOND
import Derived.Test.YtnobgooojbppbabNeed7
set_option linter.all false
set_option linter.unusedSimpArgs false
set_option maxRecDepth 100000
namespace Go.Proofs.Ytnobgooojbppbab.Pure
open Go Go.RowKit Go.Proofs.Ytnobgooojbppbab.Lift Go.Proofs.Ytnobgooojbppbab Go.Proofs.Ytnobgooojbppbab.TND

theorem NeedAsks : ∀ (y0 : (List Y94)) (y1 : Y33), (okSl oky94) y0 → oky33 y1 → F TND.T 5 [.ro 2 (y0.map ey94) false, .agg (ey33 y1)] [] = some (.bool true, []) := by
  intro y0 y1 h0 h1
  have ha := bounds_u64 h1.1
  have hb := bounds_u64 h1.2
  obtain ⟨f0, f1⟩ := y1
  obtain ⟨a, rfl⟩ := Int.eq_ofNat_of_zero_le ha.1
  obtain ⟨b, rfl⟩ := Int.eq_ofNat_of_zero_le hb.1
  have h := Need.asks (y0.map fun y => (y.f0, y.f1)) a b (by have := ha.2; simp at this; omega) (by have := hb.2; simp at this; omega)
  have e : ∀ l : List Y94, Lift.enc Base.e2 (l.map fun y => (y.f0, y.f1)) = l.map ey94 := by intro l; simp [Lift.enc, ey94, eInt, Base.e2]
  rw [e] at h
  exact h

end Go.Proofs.Ytnobgooojbppbab.Pure
