/- The reading of the law's call is true. -/
import Derived.Test.YtnobgooojbppbaaOF
import Derived.Test.YtnobgooojbppbaaDraw6
set_option linter.all false
set_option linter.unusedSimpArgs false
set_option maxRecDepth 100000
namespace Go.Proofs.Ytnobgooojbppbaa.Pure
open Go Go.RowKit Go.Proofs.Ytnobgooojbppbaa.Lift Go.Proofs.Ytnobgooojbppbaa Go.Proofs.Ytnobgooojbppbaa.TF

theorem DrawPlays : ∀ (y0 : (List Int)) (y1 : (List Y62)), (okSl (okInt .u64)) y0 → (okSl oky62) y1 → F TF.T 9 [.ro 1 (y0.map (eInt .u64)) false, .ro 3 (y1.map ey62) false] [] = some (.bool true, []) := by
  intro y0 y1 h0 h1
  have h := Flock.plays y0 (fun y hy => by have := bounds_u64 (h0.2 y hy); omega) (y1.map fun y => (y.f0, y.f1, y.f2)) (fun a ha => by
    obtain ⟨y, hy, rfl⟩ := List.mem_map.1 ha
    obtain ⟨_, g1, g2⟩ := h1.2 y hy
    have a1 := ok_i64 g1
    have a2 := ok_u64 g2
    exact ⟨a1, a2.1, Int.lt_of_le_of_lt a2.2 (by decide)⟩)
  have e : ∀ l : List Y62, Lift.enc Flock.e3 (l.map fun y => (y.f0, y.f1, y.f2)) = l.map ey62 := by intro l; simp [Lift.enc, ey62, eInt, Flock.e3]
  rw [e] at h
  exact h

end Go.Proofs.Ytnobgooojbppbaa.Pure
