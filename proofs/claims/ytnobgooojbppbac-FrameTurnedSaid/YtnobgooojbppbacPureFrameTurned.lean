/- The reading of the law's call is true. -/
import Derived.Test.YtnobgooojbppbacOOC
import Derived.Test.YtnobgooojbppbacFrame5
set_option linter.all false
set_option linter.unusedSimpArgs false
set_option maxRecDepth 100000
namespace Go.Proofs.Ytnobgooojbppbac.Pure
open Go Go.RowKit Go.Proofs.Ytnobgooojbppbac.Lift Go.Proofs.Ytnobgooojbppbac Go.Proofs.Ytnobgooojbppbac.TOC

theorem FrameTurned : ∀ (y0 : (List ByteArray)) (y1 : Int) (y2 : Y63), (okSl okStr) y0 → (okInt .u8) y1 → oky63 y2 → F TOC.T 12 [.ro 1 (y0.map eStr) false, .int .u8 y1, .agg (ey63 y2)] [] = some (.bool true, []) := by
  intro ps w t h0 h1 h2
  have b1 : 0 ≤ w ∧ w ≤ 255 := ok_int h1
  have b2 : 0 ≤ t.f0 ∧ t.f0 ≤ 4294967295 := ok_int h2.1
  have b3 : 0 ≤ t.f1 ∧ t.f1 ≤ 4294967295 := ok_int h2.2
  obtain ⟨t0, t1⟩ := t
  obtain ⟨w, rfl⟩ := Int.eq_ofNat_of_zero_le b1.1
  obtain ⟨t0, rfl⟩ := Int.eq_ofNat_of_zero_le b2.1
  obtain ⟨t1, rfl⟩ := Int.eq_ofNat_of_zero_le b3.1
  exact Oct.frameTurned ps (by have := h0.1; simp only [maxLen] at this; omega) w t0 t1 (by omega) (by have := b2.2; simp only [] at this; omega) (by have := b3.2; simp only [] at this; omega)

end Go.Proofs.Ytnobgooojbppbac.Pure
