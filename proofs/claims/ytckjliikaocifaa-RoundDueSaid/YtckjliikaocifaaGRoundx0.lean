/- What calls of the given functions of the program come to, by plain functions over numbers and lists; no conditions beyond those typed. -/
import Derived.Test.YtckjliikaocifaaProg
import Derived.Below
import Derived.Deep.Draws
import Derived.Deep.AppendLies
import Derived.Maps.AppendAt
import Derived.OwnWalk
import Derived.Laws.BytesArg
import Derived.Laws.MakeOwn
import Derived.Laws.OwnMore
import Derived.Deep.OwnRows
import Derived.Tactics
import Derived.Lib.ConvBytes
import Derived.Laws.Slices
import Derived.WalkKit
import Derived.KernelRfl
import Derived.RowKit3
import Derived.Deep.LoopGhost
import Derived.Deep.QuietTactic
import Derived.BigQuiet
import Derived.WideLaws
import Derived.Deep.DeepCutAuto
import Derived.Deep.CutBlock
import Derived.Deep.RegionHeld3
import Derived.Laws.Rows
import Derived.Lib.AppendStr
import Derived.ArgAppend
import Derived.Laws.IdiomCopy
import Derived.OrdersHeld
import Derived.Laws.BitsLemmas
import Derived.RowKit
import Derived.Test.YtckjliikaocifaaWWords
import Derived.Test.YtckjliikaocifaaWLast
import Derived.Test.YtckjliikaocifaaWTab
import Derived.Test.YtckjliikaocifaaWFour
import Derived.Test.YtckjliikaocifaaWQPut
import Derived.Test.YtckjliikaocifaaWApart
import Derived.Test.YtckjliikaocifaaWArr
import Derived.Test.YtckjliikaocifaaWZeros
import Derived.Test.YtckjliikaocifaaWFoot
import Derived.Test.YtckjliikaocifaaWKept
import Derived.Test.YtckjliikaocifaaWShare
import Derived.Test.YtckjliikaocifaaWN
import Derived.Test.YtckjliikaocifaaWFootNe
import Derived.Test.YtckjliikaocifaaWAt
import Derived.Test.YtckjliikaocifaaWEqStruct
import Derived.Test.YtckjliikaocifaaWRepsOne
import Derived.Test.YtckjliikaocifaaWInv
import Derived.Test.YtckjliikaocifaaWInvWords
import Derived.Test.YtckjliikaocifaaWGuard
import Derived.Test.YtckjliikaocifaaWNEv
import Derived.Test.YtckjliikaocifaaWMore
import Derived.Test.YtckjliikaocifaaXWords
import Derived.Lib.LazyBuf
namespace Go.Proofs.Ytckjliikaocifaa.GRound
open Go.RowKit Go.Proofs.YtckjliikaocifaaW.PrintWords Go.Proofs.YtckjliikaocifaaW.PrintLast Go.Proofs.YtckjliikaocifaaW.PrintMore
attribute [local go_sem] max2_int min2_int max_two min_two max_three min_three max_four min_four   -- for this text's walks alone
set_option linter.unusedVariables false
set_option linter.unusedSimpArgs false



def errW : Option Int → Value
  | none => .nilIface
  | some c => .iface 0 (.int .i64 c)
theorem errW_none : errW none = .nilIface := rfl
theorem errW_some (c : Int) : errW (some c) = .iface 0 (.int .i64 c) := rfl

theorem info4 : (Try.prog.info? 4).map (fun i => (i.zero, i.size, i.bytes)) = some (some (.bool false), 1, 1) := by kernel_rfl
-- the values' own types

end Go.Proofs.Ytckjliikaocifaa.GRound
