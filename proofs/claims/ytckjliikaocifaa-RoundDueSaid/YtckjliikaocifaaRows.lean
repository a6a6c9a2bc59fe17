/-
  No cell of these rows narrows 'for every input' (looked for: loops, veiled, ifaces, maps, wideKeys, modest, calm, conditions, laid).
  DERIVED. THE GIVEN ROWS OF THIS SEAT. 6 by the template 'for every input the law returns true; each argument reads behind the call as it read before'; 0 by the template 'total and deterministic' (their statements: YtckjliikaocifaaTotals.lean).
  GIVEN WITH THE SEED: the statements are not yours to turn. If you find one false, say at which input.
  Laid BY PROGRAM, IN A SANDBOX (cutbox-rows.mjs): the forced cells as the released guide's own fill.sh prints them over the translation 7591476c028eb8c8… (all of the seat's roots in one cut). By AI agents, Wed Nov 11 2026. No macro, syntax, notation, axiom, sorry.
-/
import Derived.Test.YtckjliikaocifaaChecked
import GoSem.Claim
import GoSem.ClaimJoined
import GoSem.ClaimMapViews
import Derived.JoinedTies
import Derived.KernelRfl
namespace Go.Proofs.Ytckjliikaocifaa
/- THE CELL 'sum', in the pinned program and in every row, IS THE sha256 OF THE DUMP (.gsa) THAT YtckjliikaocifaaProg.lean LOADS. Nothing in Lean hashes anything: it is a label: what it is worth is what the hold of that sum in a sandbox is worth. -/
noncomputable def Try.pinned : Pinned := { name := "ytckjliikaocifaa", sum := "7591476c028eb8c871687039a97fe64f8673838ad09c997a6122d8441abbc2e5", checked := Try.checked }
namespace Rows
def none {H : Type} : Left H := { results := [], args := [] }

/-- 'siskinlaw13.PaceWithin': WHATEVER THE INPUT: true; the input reads as it did. -/
def paceWithinSpec : ChangeSpec := { name := "paceWithin", fn := fun _ => fun
  | [d] => { results := [.lit (.bool true)], args := [d] }
  | _ => none }
def paceWithinRow : OpenClaim := { program := "ytckjliikaocifaa", sum := "7591476c028eb8c871687039a97fe64f8673838ad09c997a6122d8441abbc2e5", func := "siskin/siskinlaw13.PaceWithin", spec := "paceWithin", apart := false }
def PaceWithinSaid : Prop := paceWithinRow.holds Try.pinned (OpenSpec.ofChange paceWithinSpec)

/-- ITS FALSE NEIGHBOUR: 'it returns false'. Refute it at one input. -/
def paceWithinWrong : ChangeSpec := { name := "paceWithin", fn := fun _ => fun
  | [d] => { results := [.lit (.bool false)], args := [d] }
  | _ => none }
def PaceWithinWrongFalsely : Prop := paceWithinRow.holds Try.pinned (OpenSpec.ofChange paceWithinWrong)

/-- 'siskinlaw13.PaceGoes': WHATEVER THE INPUT: true; the input reads as it did. -/
def paceGoesSpec : ChangeSpec := { name := "paceGoes", fn := fun _ => fun
  | [d1, d2] => { results := [.lit (.bool true)], args := [d1, d2] }
  | _ => none }
def paceGoesRow : OpenClaim := { program := "ytckjliikaocifaa", sum := "7591476c028eb8c871687039a97fe64f8673838ad09c997a6122d8441abbc2e5", func := "siskin/siskinlaw13.PaceGoes", spec := "paceGoes", apart := false }
def PaceGoesSaid : Prop := paceGoesRow.holds Try.pinned (OpenSpec.ofChange paceGoesSpec)

/-- ITS FALSE NEIGHBOUR: 'it returns false'. Refute it at one input. -/
def paceGoesWrong : ChangeSpec := { name := "paceGoes", fn := fun _ => fun
  | [d1, d2] => { results := [.lit (.bool false)], args := [d1, d2] }
  | _ => none }
def PaceGoesWrongFalsely : Prop := paceGoesRow.holds Try.pinned (OpenSpec.ofChange paceGoesWrong)

/-- 'siskinlaw13.PaceDoes': WHATEVER THE INPUT: true; the input reads as it did. -/
def paceDoesSpec : ChangeSpec := { name := "paceDoes", fn := fun _ => fun
  | [d] => { results := [.lit (.bool true)], args := [d] }
  | _ => none }
def paceDoesRow : OpenClaim := { program := "ytckjliikaocifaa", sum := "7591476c028eb8c871687039a97fe64f8673838ad09c997a6122d8441abbc2e5", func := "siskin/siskinlaw13.PaceDoes", spec := "paceDoes", apart := false }
def PaceDoesSaid : Prop := paceDoesRow.holds Try.pinned (OpenSpec.ofChange paceDoesSpec)

/-- ITS FALSE NEIGHBOUR: 'it returns false'. Refute it at one input. -/
def paceDoesWrong : ChangeSpec := { name := "paceDoes", fn := fun _ => fun
  | [d] => { results := [.lit (.bool false)], args := [d] }
  | _ => none }
def PaceDoesWrongFalsely : Prop := paceDoesRow.holds Try.pinned (OpenSpec.ofChange paceDoesWrong)

/-- 'siskinlaw35.RoundDue': WHATEVER THE INPUT: true; the input reads as it did. -/
def roundDueSpec : ChangeSpec := { name := "roundDue", fn := fun _ => fun
  | [d1, d2] => { results := [.lit (.bool true)], args := [d1, d2] }
  | _ => none }
def roundDueRow : OpenClaim := { program := "ytckjliikaocifaa", sum := "7591476c028eb8c871687039a97fe64f8673838ad09c997a6122d8441abbc2e5", func := "siskin/siskinlaw35.RoundDue", spec := "roundDue", apart := false }
def RoundDueSaid : Prop := roundDueRow.holds Try.pinned (OpenSpec.ofChange roundDueSpec)

/-- ITS FALSE NEIGHBOUR: 'it returns false'. Refute it at one input. -/
def roundDueWrong : ChangeSpec := { name := "roundDue", fn := fun _ => fun
  | [d1, d2] => { results := [.lit (.bool false)], args := [d1, d2] }
  | _ => none }
def RoundDueWrongFalsely : Prop := roundDueRow.holds Try.pinned (OpenSpec.ofChange roundDueWrong)

/-- 'siskinlaw25.SeenTakes': WHATEVER THE INPUT: true; the input reads as it did. -/
def seenTakesSpec : ChangeSpec := { name := "seenTakes", fn := fun _ => fun
  | [d1, d2] => { results := [.lit (.bool true)], args := [d1, d2] }
  | _ => none }
def seenTakesRow : OpenClaim := { program := "ytckjliikaocifaa", sum := "7591476c028eb8c871687039a97fe64f8673838ad09c997a6122d8441abbc2e5", func := "siskin/siskinlaw25.SeenTakes", spec := "seenTakes", apart := false }
def SeenTakesSaid : Prop := seenTakesRow.holds Try.pinned (OpenSpec.ofChange seenTakesSpec)

/-- ITS FALSE NEIGHBOUR: 'it returns false'. Refute it at one input. -/
def seenTakesWrong : ChangeSpec := { name := "seenTakes", fn := fun _ => fun
  | [d1, d2] => { results := [.lit (.bool false)], args := [d1, d2] }
  | _ => none }
def SeenTakesWrongFalsely : Prop := seenTakesRow.holds Try.pinned (OpenSpec.ofChange seenTakesWrong)

/-- 'siskinlaw25.SeenOnce': WHATEVER THE INPUT: true; the input reads as it did. -/
def seenOnceSpec : ChangeSpec := { name := "seenOnce", fn := fun _ => fun
  | [d1, d2] => { results := [.lit (.bool true)], args := [d1, d2] }
  | _ => none }
def seenOnceRow : OpenClaim := { program := "ytckjliikaocifaa", sum := "7591476c028eb8c871687039a97fe64f8673838ad09c997a6122d8441abbc2e5", func := "siskin/siskinlaw25.SeenOnce", spec := "seenOnce", apart := false }
def SeenOnceSaid : Prop := seenOnceRow.holds Try.pinned (OpenSpec.ofChange seenOnceSpec)

/-- ITS FALSE NEIGHBOUR: 'it returns false'. Refute it at one input. -/
def seenOnceWrong : ChangeSpec := { name := "seenOnce", fn := fun _ => fun
  | [d1, d2] => { results := [.lit (.bool false)], args := [d1, d2] }
  | _ => none }
def SeenOnceWrongFalsely : Prop := seenOnceRow.holds Try.pinned (OpenSpec.ofChange seenOnceWrong)

/- THE SECOND FORM. 'bulk': how many values and letters a reading holds, each counted each time it is reached (what is shared counts as often as it is met; a slice's spare places count too). A statement '..UptoSaid' is the law's where the arguments, and the package variables that the reading takes, are together of bulk at most 1048576: NARROWER than '..Said'. Prove '..Said' where nothing that the law and all that it calls make is longer than what came in: it says more and counts as full. Else prove '..UptoSaid'. A law counts once. -/
mutual
def uptoBulk {H : Type} : DataW H → Nat
  | .lit (.string bytes) => bytes.length + 1
  | .lit _ => 1
  | .nil => 1
  | .ptr d => uptoBulk d + 1
  | .slice elems spare => uptoBulkAll elems + uptoBulkAll spare + 1
  | .agg parts => uptoBulkAll parts + 1
  | .iface _ d => uptoBulk d + 1
  | .map entries => uptoBulkEntries entries + 1
  | .held _ => 1
def uptoBulkAll {H : Type} : List (DataW H) → Nat
  | [] => 0
  | d :: r => uptoBulk d + uptoBulkAll r
def uptoBulkEntries {H : Type} : List (Lit × DataW H) → Nat
  | [] => 0
  | x :: r => uptoBulkEntry x + uptoBulkEntries r
def uptoBulkEntry {H : Type} : Lit × DataW H → Nat
  | (.string bytes, d) => bytes.length + uptoBulk d + 1
  | (_, d) => uptoBulk d + 1
 end
def uptoSmall : (H : Type) → List (DataW H) → Bool := fun _ ds => decide (uptoBulkAll ds ≤ 1048576)
def OpenSpec.upto (s : _root_.Go.ChangeSpec) : _root_.Go.OpenSpec := { _root_.Go.OpenSpec.ofChange s with cond := some uptoSmall }

/-- 'siskinlaw13.PaceWithin', WHERE WHAT IT READS IS OF BULK AT MOST 1048576: true; the input reads as it did. -/
def paceWithinUptoRow : OpenClaim := { program := "ytckjliikaocifaa", sum := "7591476c028eb8c871687039a97fe64f8673838ad09c997a6122d8441abbc2e5", func := "siskin/siskinlaw13.PaceWithin", spec := "paceWithin", apart := false, narrowed := true }
def PaceWithinUptoSaid : Prop := paceWithinUptoRow.holds Try.pinned (OpenSpec.upto paceWithinSpec)

/-- 'siskinlaw13.PaceGoes', WHERE WHAT IT READS IS OF BULK AT MOST 1048576: true; the input reads as it did. -/
def paceGoesUptoRow : OpenClaim := { program := "ytckjliikaocifaa", sum := "7591476c028eb8c871687039a97fe64f8673838ad09c997a6122d8441abbc2e5", func := "siskin/siskinlaw13.PaceGoes", spec := "paceGoes", apart := false, narrowed := true }
def PaceGoesUptoSaid : Prop := paceGoesUptoRow.holds Try.pinned (OpenSpec.upto paceGoesSpec)

/-- 'siskinlaw13.PaceDoes', WHERE WHAT IT READS IS OF BULK AT MOST 1048576: true; the input reads as it did. -/
def paceDoesUptoRow : OpenClaim := { program := "ytckjliikaocifaa", sum := "7591476c028eb8c871687039a97fe64f8673838ad09c997a6122d8441abbc2e5", func := "siskin/siskinlaw13.PaceDoes", spec := "paceDoes", apart := false, narrowed := true }
def PaceDoesUptoSaid : Prop := paceDoesUptoRow.holds Try.pinned (OpenSpec.upto paceDoesSpec)

/-- 'siskinlaw35.RoundDue', WHERE WHAT IT READS IS OF BULK AT MOST 1048576: true; the input reads as it did. -/
def roundDueUptoRow : OpenClaim := { program := "ytckjliikaocifaa", sum := "7591476c028eb8c871687039a97fe64f8673838ad09c997a6122d8441abbc2e5", func := "siskin/siskinlaw35.RoundDue", spec := "roundDue", apart := false, narrowed := true }
def RoundDueUptoSaid : Prop := roundDueUptoRow.holds Try.pinned (OpenSpec.upto roundDueSpec)

/-- 'siskinlaw25.SeenTakes', WHERE WHAT IT READS IS OF BULK AT MOST 1048576: true; the input reads as it did. -/
def seenTakesUptoRow : OpenClaim := { program := "ytckjliikaocifaa", sum := "7591476c028eb8c871687039a97fe64f8673838ad09c997a6122d8441abbc2e5", func := "siskin/siskinlaw25.SeenTakes", spec := "seenTakes", apart := false, narrowed := true }
def SeenTakesUptoSaid : Prop := seenTakesUptoRow.holds Try.pinned (OpenSpec.upto seenTakesSpec)

/-- 'siskinlaw25.SeenOnce', WHERE WHAT IT READS IS OF BULK AT MOST 1048576: true; the input reads as it did. -/
def seenOnceUptoRow : OpenClaim := { program := "ytckjliikaocifaa", sum := "7591476c028eb8c871687039a97fe64f8673838ad09c997a6122d8441abbc2e5", func := "siskin/siskinlaw25.SeenOnce", spec := "seenOnce", apart := false, narrowed := true }
def SeenOnceUptoSaid : Prop := seenOnceUptoRow.holds Try.pinned (OpenSpec.upto seenOnceSpec)

end Rows
end Go.Proofs.Ytckjliikaocifaa
