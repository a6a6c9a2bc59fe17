/- The reading of the law's call is true. -/
import Derived.Test.YtleeafkkgepblaaOPB
import Derived.Test.YtleeafkkgepblaaPack7
set_option linter.all false
set_option linter.unusedSimpArgs false
set_option maxRecDepth 100000
namespace Go.Proofs.Ytleeafkkgepblaa.Pure
open Go Go.RowKit Go.Proofs.Ytleeafkkgepblaa.Lift Go.Proofs.Ytleeafkkgepblaa Go.Proofs.Ytleeafkkgepblaa.TPB

theorem PackBack : ∀ (y0 : Y23) (y1 : ByteArray) (y2 : Y25), oky23 y0 → okStr y1 → oky25 y2 → F TPB.T 3 [.agg (ey23 y0), .str y1, .agg (ey25 y2)] [] = some (.bool true, []) := by
  intro y s t _ _ h2
  have b2 : 0 ≤ t.f0 ∧ t.f0 ≤ 4294967295 := ok_int h2.1
  have b3 : 0 ≤ t.f1 ∧ t.f1 ≤ 4294967295 := ok_int h2.2
  obtain ⟨t0, t1⟩ := t
  obtain ⟨t0, rfl⟩ := Int.eq_ofNat_of_zero_le b2.1
  obtain ⟨t1, rfl⟩ := Int.eq_ofNat_of_zero_le b3.1
  obtain ⟨k, f, t, i, pe, se, b⟩ := y
  have h := Oct.packBack ⟨k, f, t, i, pe, se, sb b⟩ (Oct.sb_range b) (sb s) (Oct.sb_range s) t0 t1 (by have := b2.2; simp only [] at this; omega) (by have := b3.2; simp only [] at this; omega)
  simp only [Oct.pk, bs_sb] at h
  exact h

end Go.Proofs.Ytleeafkkgepblaa.Pure
