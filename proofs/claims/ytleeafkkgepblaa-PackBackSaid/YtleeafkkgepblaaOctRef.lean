/- What the document's readers come to. -/
import Derived.Test.YtleeafkkgepblaaOctRead
set_option linter.all false
set_option linter.unusedSimpArgs false
set_option maxRecDepth 100000
set_option maxHeartbeats 4000000
namespace Go.Proofs.Ytleeafkkgepblaa.Oct
open Go Go.RowKit Go.Proofs.Ytleeafkkgepblaa.Lift Go.Proofs.Ytleeafkkgepblaa.TPB Go.Proofs.Ytleeafkkgepblaa.Base

end Go.Proofs.Ytleeafkkgepblaa.Oct
