/-
  No cell of these rows narrows 'for every input' (looked for: loops, veiled, ifaces, maps, wideKeys, modest, calm, conditions, laid).
  DERIVED. THE GIVEN ROWS OF THIS SEAT. 9 by the template 'for every input the law returns true; each argument reads behind the call as it read before'; 0 by the template 'total and deterministic' (their statements: YtnobgooojbppbabTotals.lean).
  GIVEN WITH THE SEED: the statements are not yours to turn. If you find one false, say at which input.
  Laid BY PROGRAM, IN A SANDBOX (cutbox-rows.mjs): the forced cells as the released guide's own fill.sh prints them over the translation d56861c2e3dc0308… (all of the seat's roots in one cut). By AI agents, Wed Nov 11 2026. No macro, syntax, notation, axiom, sorry.
-/
import Derived.Test.YtnobgooojbppbabChecked
import GoSem.Claim
import GoSem.ClaimJoined
import GoSem.ClaimMapViews
import Derived.JoinedTies
import Derived.KernelRfl
namespace Go.Proofs.Ytnobgooojbppbab
/- THE CELL 'sum', in the pinned program and in every row, IS THE sha256 OF THE DUMP (.gsa) THAT YtnobgooojbppbabProg.lean LOADS. Nothing in Lean hashes anything: it is a label: what it is worth is what the hold of that sum in a sandbox is worth. -/
noncomputable def Try.pinned : Pinned := { name := "ytnobgooojbppbab", sum := "d56861c2e3dc0308b2e84dcf692de53683ede4eb04b48576eb02b5f448f6b89d", checked := Try.checked }
namespace Rows
def none {H : Type} : Left H := { results := [], args := [] }

/-- 'siskinlaw09.NeedJoins': WHATEVER THE INPUT: true; the input reads as it did. -/
def needJoinsSpec : ChangeSpec := { name := "needJoins", fn := fun _ => fun
  | [d1, d2] => { results := [.lit (.bool true)], args := [d1, d2] }
  | _ => none }
def needJoinsRow : OpenClaim := { program := "ytnobgooojbppbab", sum := "d56861c2e3dc0308b2e84dcf692de53683ede4eb04b48576eb02b5f448f6b89d", func := "siskin/siskinlaw09.NeedJoins", spec := "needJoins", unfollowed := true, recurses := true, apart := false }
def NeedJoinsSaid : Prop := needJoinsRow.holds Try.pinned (OpenSpec.ofChange needJoinsSpec)

/-- ITS FALSE NEIGHBOUR: 'it returns false'. Refute it at one input. -/
def needJoinsWrong : ChangeSpec := { name := "needJoins", fn := fun _ => fun
  | [d1, d2] => { results := [.lit (.bool false)], args := [d1, d2] }
  | _ => none }
def NeedJoinsWrongFalsely : Prop := needJoinsRow.holds Try.pinned (OpenSpec.ofChange needJoinsWrong)

/-- 'siskinlaw09.NeedChecks': WHATEVER THE INPUT: true; the input reads as it did. -/
def needChecksSpec : ChangeSpec := { name := "needChecks", fn := fun _ => fun
  | [d1, d2] => { results := [.lit (.bool true)], args := [d1, d2] }
  | _ => none }
def needChecksRow : OpenClaim := { program := "ytnobgooojbppbab", sum := "d56861c2e3dc0308b2e84dcf692de53683ede4eb04b48576eb02b5f448f6b89d", func := "siskin/siskinlaw09.NeedChecks", spec := "needChecks", unfollowed := true, recurses := true, apart := false }
def NeedChecksSaid : Prop := needChecksRow.holds Try.pinned (OpenSpec.ofChange needChecksSpec)

/-- ITS FALSE NEIGHBOUR: 'it returns false'. Refute it at one input. -/
def needChecksWrong : ChangeSpec := { name := "needChecks", fn := fun _ => fun
  | [d1, d2] => { results := [.lit (.bool false)], args := [d1, d2] }
  | _ => none }
def NeedChecksWrongFalsely : Prop := needChecksRow.holds Try.pinned (OpenSpec.ofChange needChecksWrong)

/-- 'siskinlaw09.NeedAsks': WHATEVER THE INPUT: true; the input reads as it did. -/
def needAsksSpec : ChangeSpec := { name := "needAsks", fn := fun _ => fun
  | [d1, d2] => { results := [.lit (.bool true)], args := [d1, d2] }
  | _ => none }
def needAsksRow : OpenClaim := { program := "ytnobgooojbppbab", sum := "d56861c2e3dc0308b2e84dcf692de53683ede4eb04b48576eb02b5f448f6b89d", func := "siskin/siskinlaw09.NeedAsks", spec := "needAsks", unfollowed := true, recurses := true, apart := false }
def NeedAsksSaid : Prop := needAsksRow.holds Try.pinned (OpenSpec.ofChange needAsksSpec)

/-- ITS FALSE NEIGHBOUR: 'it returns false'. Refute it at one input. -/
def needAsksWrong : ChangeSpec := { name := "needAsks", fn := fun _ => fun
  | [d1, d2] => { results := [.lit (.bool false)], args := [d1, d2] }
  | _ => none }
def NeedAsksWrongFalsely : Prop := needAsksRow.holds Try.pinned (OpenSpec.ofChange needAsksWrong)

/-- 'siskinlaw09.NeedParts': WHATEVER THE INPUT: true; the input reads as it did. -/
def needPartsSpec : ChangeSpec := { name := "needParts", fn := fun _ => fun
  | [d1, d2, d3] => { results := [.lit (.bool true)], args := [d1, d2, d3] }
  | _ => none }
def needPartsRow : OpenClaim := { program := "ytnobgooojbppbab", sum := "d56861c2e3dc0308b2e84dcf692de53683ede4eb04b48576eb02b5f448f6b89d", func := "siskin/siskinlaw09.NeedParts", spec := "needParts", unfollowed := true, recurses := true, apart := false }
def NeedPartsSaid : Prop := needPartsRow.holds Try.pinned (OpenSpec.ofChange needPartsSpec)

/-- ITS FALSE NEIGHBOUR: 'it returns false'. Refute it at one input. -/
def needPartsWrong : ChangeSpec := { name := "needParts", fn := fun _ => fun
  | [d1, d2, d3] => { results := [.lit (.bool false)], args := [d1, d2, d3] }
  | _ => none }
def NeedPartsWrongFalsely : Prop := needPartsRow.holds Try.pinned (OpenSpec.ofChange needPartsWrong)

/-- 'siskinlaw09.NeedTells': WHATEVER THE INPUT: true; the input reads as it did. -/
def needTellsSpec : ChangeSpec := { name := "needTells", fn := fun _ => fun
  | [d1, d2] => { results := [.lit (.bool true)], args := [d1, d2] }
  | _ => none }
def needTellsRow : OpenClaim := { program := "ytnobgooojbppbab", sum := "d56861c2e3dc0308b2e84dcf692de53683ede4eb04b48576eb02b5f448f6b89d", func := "siskin/siskinlaw09.NeedTells", spec := "needTells", unfollowed := true, recurses := true, apart := false }
def NeedTellsSaid : Prop := needTellsRow.holds Try.pinned (OpenSpec.ofChange needTellsSpec)

/-- ITS FALSE NEIGHBOUR: 'it returns false'. Refute it at one input. -/
def needTellsWrong : ChangeSpec := { name := "needTells", fn := fun _ => fun
  | [d1, d2] => { results := [.lit (.bool false)], args := [d1, d2] }
  | _ => none }
def NeedTellsWrongFalsely : Prop := needTellsRow.holds Try.pinned (OpenSpec.ofChange needTellsWrong)

/-- 'siskinlaw20.BookOnce': WHATEVER THE INPUT: true; the input reads as it did. -/
def bookOnceSpec : ChangeSpec := { name := "bookOnce", fn := fun _ => fun
  | [d] => { results := [.lit (.bool true)], args := [d] }
  | _ => none }
def bookOnceRow : OpenClaim := { program := "ytnobgooojbppbab", sum := "d56861c2e3dc0308b2e84dcf692de53683ede4eb04b48576eb02b5f448f6b89d", func := "siskin/siskinlaw20.BookOnce", spec := "bookOnce", unfollowed := true, recurses := true, apart := false }
def BookOnceSaid : Prop := bookOnceRow.holds Try.pinned (OpenSpec.ofChange bookOnceSpec)

/-- ITS FALSE NEIGHBOUR: 'it returns false'. Refute it at one input. -/
def bookOnceWrong : ChangeSpec := { name := "bookOnce", fn := fun _ => fun
  | [d] => { results := [.lit (.bool false)], args := [d] }
  | _ => none }
def BookOnceWrongFalsely : Prop := bookOnceRow.holds Try.pinned (OpenSpec.ofChange bookOnceWrong)

/-- 'siskinlaw20.BookTells': WHATEVER THE INPUT: true; the input reads as it did. -/
def bookTellsSpec : ChangeSpec := { name := "bookTells", fn := fun _ => fun
  | [d1, d2, d3] => { results := [.lit (.bool true)], args := [d1, d2, d3] }
  | _ => none }
def bookTellsRow : OpenClaim := { program := "ytnobgooojbppbab", sum := "d56861c2e3dc0308b2e84dcf692de53683ede4eb04b48576eb02b5f448f6b89d", func := "siskin/siskinlaw20.BookTells", spec := "bookTells", unfollowed := true, recurses := true, apart := false }
def BookTellsSaid : Prop := bookTellsRow.holds Try.pinned (OpenSpec.ofChange bookTellsSpec)

/-- ITS FALSE NEIGHBOUR: 'it returns false'. Refute it at one input. -/
def bookTellsWrong : ChangeSpec := { name := "bookTells", fn := fun _ => fun
  | [d1, d2, d3] => { results := [.lit (.bool false)], args := [d1, d2, d3] }
  | _ => none }
def BookTellsWrongFalsely : Prop := bookTellsRow.holds Try.pinned (OpenSpec.ofChange bookTellsWrong)

/-- 'siskinlaw31.TableOnce': WHATEVER THE INPUT: true; the input reads as it did. -/
def tableOnceSpec : ChangeSpec := { name := "tableOnce", fn := fun _ => fun
  | [d] => { results := [.lit (.bool true)], args := [d] }
  | _ => none }
def tableOnceRow : OpenClaim := { program := "ytnobgooojbppbab", sum := "d56861c2e3dc0308b2e84dcf692de53683ede4eb04b48576eb02b5f448f6b89d", func := "siskin/siskinlaw31.TableOnce", spec := "tableOnce", inPlace := ["slices.overlaps[siskin/table.Row]"], unfollowed := true, recurses := true, apart := false }
def TableOnceSaid : Prop := tableOnceRow.holds Try.pinned (OpenSpec.ofChange tableOnceSpec)

/-- ITS FALSE NEIGHBOUR: 'it returns false'. Refute it at one input. -/
def tableOnceWrong : ChangeSpec := { name := "tableOnce", fn := fun _ => fun
  | [d] => { results := [.lit (.bool false)], args := [d] }
  | _ => none }
def TableOnceWrongFalsely : Prop := tableOnceRow.holds Try.pinned (OpenSpec.ofChange tableOnceWrong)

/-- 'siskinlaw31.TableDoes': WHATEVER THE INPUT: true; the input reads as it did. -/
def tableDoesSpec : ChangeSpec := { name := "tableDoes", fn := fun _ => fun
  | [d1, d2, d3] => { results := [.lit (.bool true)], args := [d1, d2, d3] }
  | _ => none }
def tableDoesRow : OpenClaim := { program := "ytnobgooojbppbab", sum := "d56861c2e3dc0308b2e84dcf692de53683ede4eb04b48576eb02b5f448f6b89d", func := "siskin/siskinlaw31.TableDoes", spec := "tableDoes", inPlace := ["slices.overlaps[siskin/table.Row]"], unfollowed := true, recurses := true, apart := false }
def TableDoesSaid : Prop := tableDoesRow.holds Try.pinned (OpenSpec.ofChange tableDoesSpec)

/-- ITS FALSE NEIGHBOUR: 'it returns false'. Refute it at one input. -/
def tableDoesWrong : ChangeSpec := { name := "tableDoes", fn := fun _ => fun
  | [d1, d2, d3] => { results := [.lit (.bool false)], args := [d1, d2, d3] }
  | _ => none }
def TableDoesWrongFalsely : Prop := tableDoesRow.holds Try.pinned (OpenSpec.ofChange tableDoesWrong)

/- THE SECOND FORM. 'bulk': how many values and letters a reading holds, each counted each time it is reached (what is shared counts as often as it is met; a slice's spare places count too). A statement '..UptoSaid' is the law's where the arguments, and the package variables that the reading takes, are together of bulk at most 1048576: NARROWER than '..Said'. Prove '..Said' where nothing that the law and all that it calls make is longer than what came in: it says more and counts as full. Else prove '..UptoSaid'. A law counts once. -/
mutual
def uptoBulk {H : Type} : DataW H → Nat
  | .lit (.string bytes) => bytes.length + 1
  | .lit _ => 1
  | .nil => 1
  | .ptr d => uptoBulk d + 1
  | .slice elems spare => uptoBulkAll elems + uptoBulkAll spare + 1
  | .agg parts => uptoBulkAll parts + 1
  | .iface _ d => uptoBulk d + 1
  | .map entries => uptoBulkEntries entries + 1
  | .held _ => 1
def uptoBulkAll {H : Type} : List (DataW H) → Nat
  | [] => 0
  | d :: r => uptoBulk d + uptoBulkAll r
def uptoBulkEntries {H : Type} : List (Lit × DataW H) → Nat
  | [] => 0
  | x :: r => uptoBulkEntry x + uptoBulkEntries r
def uptoBulkEntry {H : Type} : Lit × DataW H → Nat
  | (.string bytes, d) => bytes.length + uptoBulk d + 1
  | (_, d) => uptoBulk d + 1
 end
def uptoSmall : (H : Type) → List (DataW H) → Bool := fun _ ds => decide (uptoBulkAll ds ≤ 1048576)
def OpenSpec.upto (s : _root_.Go.ChangeSpec) : _root_.Go.OpenSpec := { _root_.Go.OpenSpec.ofChange s with cond := some uptoSmall }

/-- 'siskinlaw09.NeedJoins', WHERE WHAT IT READS IS OF BULK AT MOST 1048576: true; the input reads as it did. -/
def needJoinsUptoRow : OpenClaim := { program := "ytnobgooojbppbab", sum := "d56861c2e3dc0308b2e84dcf692de53683ede4eb04b48576eb02b5f448f6b89d", func := "siskin/siskinlaw09.NeedJoins", spec := "needJoins", unfollowed := true, recurses := true, apart := false, narrowed := true }
def NeedJoinsUptoSaid : Prop := needJoinsUptoRow.holds Try.pinned (OpenSpec.upto needJoinsSpec)

/-- 'siskinlaw09.NeedChecks', WHERE WHAT IT READS IS OF BULK AT MOST 1048576: true; the input reads as it did. -/
def needChecksUptoRow : OpenClaim := { program := "ytnobgooojbppbab", sum := "d56861c2e3dc0308b2e84dcf692de53683ede4eb04b48576eb02b5f448f6b89d", func := "siskin/siskinlaw09.NeedChecks", spec := "needChecks", unfollowed := true, recurses := true, apart := false, narrowed := true }
def NeedChecksUptoSaid : Prop := needChecksUptoRow.holds Try.pinned (OpenSpec.upto needChecksSpec)

/-- 'siskinlaw09.NeedAsks', WHERE WHAT IT READS IS OF BULK AT MOST 1048576: true; the input reads as it did. -/
def needAsksUptoRow : OpenClaim := { program := "ytnobgooojbppbab", sum := "d56861c2e3dc0308b2e84dcf692de53683ede4eb04b48576eb02b5f448f6b89d", func := "siskin/siskinlaw09.NeedAsks", spec := "needAsks", unfollowed := true, recurses := true, apart := false, narrowed := true }
def NeedAsksUptoSaid : Prop := needAsksUptoRow.holds Try.pinned (OpenSpec.upto needAsksSpec)

/-- 'siskinlaw09.NeedParts', WHERE WHAT IT READS IS OF BULK AT MOST 1048576: true; the input reads as it did. -/
def needPartsUptoRow : OpenClaim := { program := "ytnobgooojbppbab", sum := "d56861c2e3dc0308b2e84dcf692de53683ede4eb04b48576eb02b5f448f6b89d", func := "siskin/siskinlaw09.NeedParts", spec := "needParts", unfollowed := true, recurses := true, apart := false, narrowed := true }
def NeedPartsUptoSaid : Prop := needPartsUptoRow.holds Try.pinned (OpenSpec.upto needPartsSpec)

/-- 'siskinlaw09.NeedTells', WHERE WHAT IT READS IS OF BULK AT MOST 1048576: true; the input reads as it did. -/
def needTellsUptoRow : OpenClaim := { program := "ytnobgooojbppbab", sum := "d56861c2e3dc0308b2e84dcf692de53683ede4eb04b48576eb02b5f448f6b89d", func := "siskin/siskinlaw09.NeedTells", spec := "needTells", unfollowed := true, recurses := true, apart := false, narrowed := true }
def NeedTellsUptoSaid : Prop := needTellsUptoRow.holds Try.pinned (OpenSpec.upto needTellsSpec)

/-- 'siskinlaw20.BookOnce', WHERE WHAT IT READS IS OF BULK AT MOST 1048576: true; the input reads as it did. -/
def bookOnceUptoRow : OpenClaim := { program := "ytnobgooojbppbab", sum := "d56861c2e3dc0308b2e84dcf692de53683ede4eb04b48576eb02b5f448f6b89d", func := "siskin/siskinlaw20.BookOnce", spec := "bookOnce", unfollowed := true, recurses := true, apart := false, narrowed := true }
def BookOnceUptoSaid : Prop := bookOnceUptoRow.holds Try.pinned (OpenSpec.upto bookOnceSpec)

/-- 'siskinlaw20.BookTells', WHERE WHAT IT READS IS OF BULK AT MOST 1048576: true; the input reads as it did. -/
def bookTellsUptoRow : OpenClaim := { program := "ytnobgooojbppbab", sum := "d56861c2e3dc0308b2e84dcf692de53683ede4eb04b48576eb02b5f448f6b89d", func := "siskin/siskinlaw20.BookTells", spec := "bookTells", unfollowed := true, recurses := true, apart := false, narrowed := true }
def BookTellsUptoSaid : Prop := bookTellsUptoRow.holds Try.pinned (OpenSpec.upto bookTellsSpec)

/-- 'siskinlaw31.TableOnce', WHERE WHAT IT READS IS OF BULK AT MOST 1048576: true; the input reads as it did. -/
def tableOnceUptoRow : OpenClaim := { program := "ytnobgooojbppbab", sum := "d56861c2e3dc0308b2e84dcf692de53683ede4eb04b48576eb02b5f448f6b89d", func := "siskin/siskinlaw31.TableOnce", spec := "tableOnce", inPlace := ["slices.overlaps[siskin/table.Row]"], unfollowed := true, recurses := true, apart := false, narrowed := true }
def TableOnceUptoSaid : Prop := tableOnceUptoRow.holds Try.pinned (OpenSpec.upto tableOnceSpec)

/-- 'siskinlaw31.TableDoes', WHERE WHAT IT READS IS OF BULK AT MOST 1048576: true; the input reads as it did. -/
def tableDoesUptoRow : OpenClaim := { program := "ytnobgooojbppbab", sum := "d56861c2e3dc0308b2e84dcf692de53683ede4eb04b48576eb02b5f448f6b89d", func := "siskin/siskinlaw31.TableDoes", spec := "tableDoes", inPlace := ["slices.overlaps[siskin/table.Row]"], unfollowed := true, recurses := true, apart := false, narrowed := true }
def TableDoesUptoSaid : Prop := tableDoesUptoRow.holds Try.pinned (OpenSpec.upto tableDoesSpec)

end Rows
end Go.Proofs.Ytnobgooojbppbab
