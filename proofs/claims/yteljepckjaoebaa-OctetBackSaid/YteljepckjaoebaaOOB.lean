/- What comes in, by its types. -/
import Derived.Test.YteljepckjaoebaaTOB
import Derived.Test.YteljepckjaoebaaLiftR
set_option linter.all false
set_option maxRecDepth 100000
namespace Go.Proofs.Yteljepckjaoebaa.TOB
open Go Go.RowKit Go.Proofs.Yteljepckjaoebaa.Lift Go.Proofs.Yteljepckjaoebaa
end Go.Proofs.Yteljepckjaoebaa.TOB
