/- The reading of the law's call is true. -/
import Derived.Test.YtleeafkkgepblaaOSK
import Derived.Test.YtleeafkkgepblaaSent5
set_option linter.all false
set_option linter.unusedSimpArgs false
set_option maxRecDepth 100000
namespace Go.Proofs.Ytleeafkkgepblaa.Pure
open Go Go.RowKit Go.Proofs.Ytleeafkkgepblaa.Lift Go.Proofs.Ytleeafkkgepblaa Go.Proofs.Ytleeafkkgepblaa.TSK

theorem SentKeeps : ∀ (y0 : Int) (y1 : (List Y45)), (okInt .u8) y0 → (okSl oky45) y1 → F TSK.T 4 [.int .u8 y0, .ro 4 (y1.map ey45) false] [] = some (.bool true, []) := by
  intro y0 y1 h0 h1
  have hb : 0 ≤ y0 ∧ y0 ≤ 255 := ok_int h0
  have h := Sent.sentKeeps y0 (y1.map fun y => (y.f0, y.f1, y.f2, y.f3)) false hb.1 hb.2 (by simpa using h1.1)
  have e : Lift.enc Sent.eSt (y1.map fun y => (y.f0, y.f1, y.f2, y.f3)) = y1.map ey45 := by simp [Lift.enc, ey45, eInt, eStr, Sent.eSt]
  rw [e] at h
  exact h

end Go.Proofs.Ytleeafkkgepblaa.Pure
