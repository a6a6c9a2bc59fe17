/- What calls of the given functions of the program come to, by plain functions over numbers and lists; no conditions beyond those typed. -/
import Derived.Test.YtckjliikaocifabProg
import Derived.Below
import Derived.Deep.Draws
import Derived.Deep.AppendLies
import Derived.Maps.AppendAt
import Derived.OwnWalk
import Derived.Laws.BytesArg
import Derived.Laws.MakeOwn
import Derived.Laws.OwnMore
import Derived.Deep.OwnRows
import Derived.Tactics
import Derived.Lib.ConvBytes
import Derived.Laws.Slices
import Derived.WalkKit
import Derived.KernelRfl
import Derived.RowKit3
import Derived.Deep.LoopGhost
import Derived.Deep.QuietTactic
import Derived.BigQuiet
import Derived.WideLaws
import Derived.Deep.DeepCutAuto
import Derived.Deep.CutBlock
import Derived.Deep.RegionHeld3
import Derived.Laws.Rows
import Derived.Lib.AppendStr
import Derived.ArgAppend
import Derived.Laws.IdiomCopy
import Derived.OrdersHeld
import Derived.Laws.BitsLemmas
import Derived.RowKit
import Derived.Test.YtckjliikaocifabWWords
import Derived.Test.YtckjliikaocifabWLast
import Derived.Test.YtckjliikaocifabWTab
import Derived.Test.YtckjliikaocifabWFour
import Derived.Test.YtckjliikaocifabWQPut
import Derived.Test.YtckjliikaocifabWApart
import Derived.Test.YtckjliikaocifabWArr
import Derived.Test.YtckjliikaocifabWZeros
import Derived.Test.YtckjliikaocifabWFoot
import Derived.Test.YtckjliikaocifabWKept
import Derived.Test.YtckjliikaocifabWShare
import Derived.Test.YtckjliikaocifabWN
import Derived.Test.YtckjliikaocifabWFootNe
import Derived.Test.YtckjliikaocifabWAt
import Derived.Test.YtckjliikaocifabWEqStruct
import Derived.Test.YtckjliikaocifabWRepsOne
import Derived.Test.YtckjliikaocifabWInv
import Derived.Test.YtckjliikaocifabWInvWords
import Derived.Test.YtckjliikaocifabWGuard
import Derived.Test.YtckjliikaocifabWNEv
import Derived.Test.YtckjliikaocifabWMore
import Derived.Test.YtckjliikaocifabXWords
import Derived.Lib.LazyBuf
import Derived.Lib.SlBytesConst
import Derived.Lib.SmallJoins
namespace Go.Proofs.Ytckjliikaocifab.GCrcb
open Go.RowKit Go.Proofs.YtckjliikaocifabW.PrintWords Go.Proofs.YtckjliikaocifabW.PrintLast Go.Proofs.YtckjliikaocifabW.PrintMore
attribute [local go_sem] max2_int min2_int max_two min_two max_three min_three max_four min_four   -- for this text's walks alone
set_option linter.unusedVariables false
set_option linter.unusedSimpArgs false



def errW : Option Int → Value
  | none => .nilIface
  | some c => .iface 0 (.int .i64 c)
theorem errW_none : errW none = .nilIface := rfl
theorem errW_some (c : Int) : errW (some c) = .iface 0 (.int .i64 c) := rfl

theorem info5 : (Try.prog.info? 5).map (fun i => (i.zero, i.size, i.bytes)) = some (some (.int .u8 0), 1, 1) := by kernel_rfl
-- the values' own types

end Go.Proofs.Ytckjliikaocifab.GCrcb
