/- The reading of the law's call is true. -/
import Derived.Test.YtnobgooojbppbacOOC
import Derived.Test.YtnobgooojbppbacOctReads
set_option linter.all false
set_option linter.unusedSimpArgs false
set_option maxRecDepth 100000
namespace Go.Proofs.Ytnobgooojbppbac.Pure
open Go Go.RowKit Go.Proofs.Ytnobgooojbppbac.Lift Go.Proofs.Ytnobgooojbppbac Go.Proofs.Ytnobgooojbppbac.TOC

theorem OctetReads : ∀ (y0 : (List Int)) (y1 : (List Y31)), (okSl (okInt .u8)) y0 → (okSl oky31) y1 → F TOC.T 3 [.ro 1 (y0.map (eInt .u8)) false, .ro 3 (y1.map ey31) false] [] = some (.bool true, []) := by
  intro y0 y1 h0 h1
  have h := Oct.reads y0 (ok_u8 h0) (y1.map fun y => (y.f0, y.f1, y.f2)) (fun a ha => by
    obtain ⟨y, hy, rfl⟩ := List.mem_map.1 ha
    obtain ⟨_, g1, g2⟩ := h1.2 y hy
    have a2 := ok_i64 g2
    exact wrap_i64 _ a2.1 a2.2)
  have e : ∀ l : List Y31, Lift.enc Oct.e3 (l.map fun y => (y.f0, y.f1, y.f2)) = l.map ey31 := by intro l; simp [Lift.enc, ey31, eInt, Oct.e3]
  rw [e] at h
  exact h

end Go.Proofs.Ytnobgooojbppbac.Pure
