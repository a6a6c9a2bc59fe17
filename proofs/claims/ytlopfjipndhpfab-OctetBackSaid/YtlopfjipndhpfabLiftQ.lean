/- A reading of the program's code by values alone: how calls are reckoned. -/
import Derived.Test.YtlopfjipndhpfabLiftP
set_option linter.unusedVariables false
set_option linter.unusedSimpArgs false
namespace Go.Proofs.Ytlopfjipndhpfab.Lift
open Go Go.RowKit

attribute [simp] acode aops calm loud ev evs lenOf binOpA binInt gradedCmp put guardOf at_ zipFrom lk hput setCells cells one isOwn lends argIds closure relist living canon start result finish pos optI isInt content fill hasRO ids AV.ren renL_eq AObj.ren isByte clo lend lend1 backTo moved dropL hputs forget drop1

theorem callArgs_none (H : Heap) (gr : Bool) (as : List AV) (h : as.flatMap (argIds gr) = []) : callArgs H gr as = some ((if gr then as else as.map (lend [] H)).map (AV.ren (pos [])), [], [], !gr && as.any lends) := by
  simp [callArgs, h]

@[simp] theorem eraseDups_one (a : Nat) : [a].eraseDups = [a] := by simp [List.eraseDups_cons]

/-- One part behind the other. -/
theorem A_seq {C : FT} {L : LT} {a b : SCode} {st st1 : ASt} {r : Option (AEx × ASt)} (h1 : acode C L a st = some (.normal, st1)) (h2 : acode C L b st1 = r) : acode C L (.seq a b) st = r := by
  simp only [acode, h1, h2]
theorem A_stop {C : FT} {L : LT} {a b : SCode} {st st1 : ASt} {ex : AEx} (h1 : acode C L a st = some (ex, st1)) (hx : ex ≠ .normal) : acode C L (.seq a b) st = some (ex, st1) := by
  simp only [acode, h1]
  cases ex <;> first | rfl | exact absurd rfl hx
theorem A_block {C : FT} {L : LT} {c : SCode} {id : Nat} {st st1 : ASt} (h : acode C L c st = some (.exit id, st1)) : acode C L (.block id c) st = some (.normal, st1) := by
  simp [acode, h]

/-- The next part, reckoned. -/
macro "go" "[" xs:Lean.Parser.Tactic.simpLemma,* "]" : tactic => `(tactic| refine A_seq (by simp [$xs,*]; rfl) ?_)
/-- The last part, reckoned. -/
macro "stop" "[" xs:Lean.Parser.Tactic.simpLemma,* "]" : tactic => `(tactic| (simp [$xs,*]; rfl))

end Go.Proofs.Ytlopfjipndhpfab.Lift
