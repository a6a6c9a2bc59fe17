/- A reading of the program's code by values alone: how calls are reckoned. -/
import Derived.Test.YtlopfjipndhpfabLiftP
set_option linter.unusedVariables false
set_option linter.unusedSimpArgs false
namespace Go.Proofs.Ytlopfjipndhpfab.Lift
open Go Go.RowKit

attribute [simp] acode aops calm loud ev evs lenOf binOpA binInt gradedCmp put guardOf at_ zipFrom lk hput setCells cells one isOwn lends argIds closure relist living canon start result finish pos optI isInt content fill hasRO ids AV.ren renL_eq AObj.ren isByte clo lend lend1 backTo moved dropL hputs forget drop1

theorem callArgs_none (H : Heap) (gr : Bool) (as : List AV) (h : as.flatMap (argIds gr) = []) : callArgs H gr as = some ((if gr then as else as.map (lend [] H)).map (AV.ren (pos [])), [], [], !gr && as.any lends) := by
  simp [callArgs, h]

@[simp] theorem eraseDups_one (a : Nat) : [a].eraseDups = [a] := by simp [List.eraseDups_cons]

end Go.Proofs.Ytlopfjipndhpfab.Lift
