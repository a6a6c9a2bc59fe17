/- The reading of the law's call is true. -/
import Derived.Test.YtjpccbjgmogclaaOLK
import Derived.Test.YtjpccbjgmogclaaLinkK
set_option linter.all false
set_option linter.unusedSimpArgs false
set_option maxRecDepth 100000
namespace Go.Proofs.Ytjpccbjgmogclaa.Pure
open Go Go.RowKit Go.Proofs.Ytjpccbjgmogclaa.Lift Go.Proofs.Ytjpccbjgmogclaa Go.Proofs.Ytjpccbjgmogclaa.TLK

theorem LinkOnce : ∀ (y0 : (List Y27)), (okSl oky27) y0 → F TLK.T 3 [.ro 2 (y0.map ey27) false] [] = some (.bool true, []) := by
  intro y0 h0
  have h := Link.linkOnce (y0.map fun y => (y.f0, y.f1))
  have e : Lift.enc Base.e2 (y0.map fun y => (y.f0, y.f1)) = y0.map ey27 := by simp [Lift.enc, ey27, eInt, Base.e2]
  rw [e] at h
  exact h

end Go.Proofs.Ytjpccbjgmogclaa.Pure
