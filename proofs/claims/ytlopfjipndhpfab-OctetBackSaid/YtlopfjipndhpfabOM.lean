/- What comes in, by its types. -/
import Derived.Test.YtlopfjipndhpfabTM
import Derived.Test.YtlopfjipndhpfabLiftR
set_option linter.unusedVariables false
namespace Go.Proofs.Ytlopfjipndhpfab.TM
open Go Go.RowKit Go.Proofs.Ytlopfjipndhpfab.Lift Go.Proofs.Ytlopfjipndhpfab
end Go.Proofs.Ytlopfjipndhpfab.TM
