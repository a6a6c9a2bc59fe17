/-
  No cell of these rows narrows 'for every input' (looked for: loops, veiled, ifaces, maps, wideKeys, modest, calm, conditions, laid).
  DERIVED. THE GIVEN ROWS OF THIS SEAT. 7 by the template 'for every input the law returns true; each argument reads behind the call as it read before'; 0 by the template 'total and deterministic' (their statements: YtjpccbjgmogclaaTotals.lean).
  GIVEN WITH THE SEED: the statements are not yours to turn. If you find one false, say at which input.
  Laid BY PROGRAM, IN A SANDBOX (cutbox-rows.mjs): the forced cells as the released guide's own fill.sh prints them over the translation fb5f7e9392c28e3e… (all of the seat's roots in one cut). By AI agents, Wed Nov 11 2026. No macro, syntax, notation, axiom, sorry.
-/
import Derived.Test.YtjpccbjgmogclaaChecked
import GoSem.Claim
import GoSem.ClaimJoined
import GoSem.ClaimMapViews
import Derived.JoinedTies
import Derived.KernelRfl
namespace Go.Proofs.Ytjpccbjgmogclaa
/- THE CELL 'sum', in the pinned program and in every row, IS THE sha256 OF THE DUMP (.gsa) THAT YtjpccbjgmogclaaProg.lean LOADS. Nothing in Lean hashes anything: it is a label: what it is worth is what the hold of that sum in a sandbox is worth. -/
noncomputable def Try.pinned : Pinned := { name := "ytjpccbjgmogclaa", sum := "fb5f7e9392c28e3ef655882f587622b247b9f19dfe720e5722caeec6b6ef0439", checked := Try.checked }
namespace Rows
def none {H : Type} : Left H := { results := [], args := [] }

/-- 'siskinlaw26.LinkOnce': WHATEVER THE INPUT: true; the input reads as it did. -/
def linkOnceSpec : ChangeSpec := { name := "linkOnce", fn := fun _ => fun
  | [d] => { results := [.lit (.bool true)], args := [d] }
  | _ => none }
def linkOnceRow : OpenClaim := { program := "ytjpccbjgmogclaa", sum := "fb5f7e9392c28e3ef655882f587622b247b9f19dfe720e5722caeec6b6ef0439", func := "siskin/siskinlaw26.LinkOnce", spec := "linkOnce", unfollowed := true, recurses := true, apart := false }
def LinkOnceSaid : Prop := linkOnceRow.holds Try.pinned (OpenSpec.ofChange linkOnceSpec)

/-- ITS FALSE NEIGHBOUR: 'it returns false'. Refute it at one input. -/
def linkOnceWrong : ChangeSpec := { name := "linkOnce", fn := fun _ => fun
  | [d] => { results := [.lit (.bool false)], args := [d] }
  | _ => none }
def LinkOnceWrongFalsely : Prop := linkOnceRow.holds Try.pinned (OpenSpec.ofChange linkOnceWrong)

/-- 'siskinlaw26.LinkComes': WHATEVER THE INPUT: true; the input reads as it did. -/
def linkComesSpec : ChangeSpec := { name := "linkComes", fn := fun _ => fun
  | [d] => { results := [.lit (.bool true)], args := [d] }
  | _ => none }
def linkComesRow : OpenClaim := { program := "ytjpccbjgmogclaa", sum := "fb5f7e9392c28e3ef655882f587622b247b9f19dfe720e5722caeec6b6ef0439", func := "siskin/siskinlaw26.LinkComes", spec := "linkComes", unfollowed := true, recurses := true, apart := false }
def LinkComesSaid : Prop := linkComesRow.holds Try.pinned (OpenSpec.ofChange linkComesSpec)

/-- ITS FALSE NEIGHBOUR: 'it returns false'. Refute it at one input. -/
def linkComesWrong : ChangeSpec := { name := "linkComes", fn := fun _ => fun
  | [d] => { results := [.lit (.bool false)], args := [d] }
  | _ => none }
def LinkComesWrongFalsely : Prop := linkComesRow.holds Try.pinned (OpenSpec.ofChange linkComesWrong)

/-- 'siskinlaw26.LinkNew': WHATEVER THE INPUT: true; the input reads as it did. -/
def linkNewSpec : ChangeSpec := { name := "linkNew", fn := fun _ => fun
  | [d1, d2] => { results := [.lit (.bool true)], args := [d1, d2] }
  | _ => none }
def linkNewRow : OpenClaim := { program := "ytjpccbjgmogclaa", sum := "fb5f7e9392c28e3ef655882f587622b247b9f19dfe720e5722caeec6b6ef0439", func := "siskin/siskinlaw26.LinkNew", spec := "linkNew", unfollowed := true, recurses := true, apart := false }
def LinkNewSaid : Prop := linkNewRow.holds Try.pinned (OpenSpec.ofChange linkNewSpec)

/-- ITS FALSE NEIGHBOUR: 'it returns false'. Refute it at one input. -/
def linkNewWrong : ChangeSpec := { name := "linkNew", fn := fun _ => fun
  | [d1, d2] => { results := [.lit (.bool false)], args := [d1, d2] }
  | _ => none }
def LinkNewWrongFalsely : Prop := linkNewRow.holds Try.pinned (OpenSpec.ofChange linkNewWrong)

/-- 'siskinlaw26.LinkDoes': WHATEVER THE INPUT: true; the input reads as it did. -/
def linkDoesSpec : ChangeSpec := { name := "linkDoes", fn := fun _ => fun
  | [d1, d2, d3] => { results := [.lit (.bool true)], args := [d1, d2, d3] }
  | _ => none }
def linkDoesRow : OpenClaim := { program := "ytjpccbjgmogclaa", sum := "fb5f7e9392c28e3ef655882f587622b247b9f19dfe720e5722caeec6b6ef0439", func := "siskin/siskinlaw26.LinkDoes", spec := "linkDoes", unfollowed := true, recurses := true, apart := false }
def LinkDoesSaid : Prop := linkDoesRow.holds Try.pinned (OpenSpec.ofChange linkDoesSpec)

/-- ITS FALSE NEIGHBOUR: 'it returns false'. Refute it at one input. -/
def linkDoesWrong : ChangeSpec := { name := "linkDoes", fn := fun _ => fun
  | [d1, d2, d3] => { results := [.lit (.bool false)], args := [d1, d2, d3] }
  | _ => none }
def LinkDoesWrongFalsely : Prop := linkDoesRow.holds Try.pinned (OpenSpec.ofChange linkDoesWrong)

/-- 'siskinlaw27.PortTalks': WHATEVER THE INPUT: true; the input reads as it did. -/
def portTalksSpec : ChangeSpec := { name := "portTalks", fn := fun _ => fun
  | [d1, d2] => { results := [.lit (.bool true)], args := [d1, d2] }
  | _ => none }
def portTalksRow : OpenClaim := { program := "ytjpccbjgmogclaa", sum := "fb5f7e9392c28e3ef655882f587622b247b9f19dfe720e5722caeec6b6ef0439", func := "siskin/siskinlaw27.PortTalks", spec := "portTalks", unfollowed := true, recurses := true, apart := false }
def PortTalksSaid : Prop := portTalksRow.holds Try.pinned (OpenSpec.ofChange portTalksSpec)

/-- ITS FALSE NEIGHBOUR: 'it returns false'. Refute it at one input. -/
def portTalksWrong : ChangeSpec := { name := "portTalks", fn := fun _ => fun
  | [d1, d2] => { results := [.lit (.bool false)], args := [d1, d2] }
  | _ => none }
def PortTalksWrongFalsely : Prop := portTalksRow.holds Try.pinned (OpenSpec.ofChange portTalksWrong)

/-- 'siskinlaw27.PortTurned': WHATEVER THE INPUT: true; the input reads as it did. -/
def portTurnedSpec : ChangeSpec := { name := "portTurned", fn := fun _ => fun
  | [d1, d2, d3] => { results := [.lit (.bool true)], args := [d1, d2, d3] }
  | _ => none }
def portTurnedRow : OpenClaim := { program := "ytjpccbjgmogclaa", sum := "fb5f7e9392c28e3ef655882f587622b247b9f19dfe720e5722caeec6b6ef0439", func := "siskin/siskinlaw27.PortTurned", spec := "portTurned", unfollowed := true, recurses := true, apart := false }
def PortTurnedSaid : Prop := portTurnedRow.holds Try.pinned (OpenSpec.ofChange portTurnedSpec)

/-- ITS FALSE NEIGHBOUR: 'it returns false'. Refute it at one input. -/
def portTurnedWrong : ChangeSpec := { name := "portTurned", fn := fun _ => fun
  | [d1, d2, d3] => { results := [.lit (.bool false)], args := [d1, d2, d3] }
  | _ => none }
def PortTurnedWrongFalsely : Prop := portTurnedRow.holds Try.pinned (OpenSpec.ofChange portTurnedWrong)

/-- 'siskinlaw32.WorkerOnce': WHATEVER THE INPUT: true; the input reads as it did. -/
def workerOnceSpec : ChangeSpec := { name := "workerOnce", fn := fun _ => fun
  | [d1, d2] => { results := [.lit (.bool true)], args := [d1, d2] }
  | _ => none }
def workerOnceRow : OpenClaim := { program := "ytjpccbjgmogclaa", sum := "fb5f7e9392c28e3ef655882f587622b247b9f19dfe720e5722caeec6b6ef0439", func := "siskin/siskinlaw32.WorkerOnce", spec := "workerOnce", inPlace := ["slices.overlaps[siskin/table.Row]"], unfollowed := true, recurses := true, apart := false }
def WorkerOnceSaid : Prop := workerOnceRow.holds Try.pinned (OpenSpec.ofChange workerOnceSpec)

/-- ITS FALSE NEIGHBOUR: 'it returns false'. Refute it at one input. -/
def workerOnceWrong : ChangeSpec := { name := "workerOnce", fn := fun _ => fun
  | [d1, d2] => { results := [.lit (.bool false)], args := [d1, d2] }
  | _ => none }
def WorkerOnceWrongFalsely : Prop := workerOnceRow.holds Try.pinned (OpenSpec.ofChange workerOnceWrong)

/- THE SECOND FORM. 'bulk': how many values and letters a reading holds, each counted each time it is reached (what is shared counts as often as it is met; a slice's spare places count too). A statement '..UptoSaid' is the law's where the arguments, and the package variables that the reading takes, are together of bulk at most 1048576: NARROWER than '..Said'. Prove '..Said' where nothing that the law and all that it calls make is longer than what came in: it says more and counts as full. Else prove '..UptoSaid'. A law counts once. -/
mutual
def uptoBulk {H : Type} : DataW H → Nat
  | .lit (.string bytes) => bytes.length + 1
  | .lit _ => 1
  | .nil => 1
  | .ptr d => uptoBulk d + 1
  | .slice elems spare => uptoBulkAll elems + uptoBulkAll spare + 1
  | .agg parts => uptoBulkAll parts + 1
  | .iface _ d => uptoBulk d + 1
  | .map entries => uptoBulkEntries entries + 1
  | .held _ => 1
def uptoBulkAll {H : Type} : List (DataW H) → Nat
  | [] => 0
  | d :: r => uptoBulk d + uptoBulkAll r
def uptoBulkEntries {H : Type} : List (Lit × DataW H) → Nat
  | [] => 0
  | x :: r => uptoBulkEntry x + uptoBulkEntries r
def uptoBulkEntry {H : Type} : Lit × DataW H → Nat
  | (.string bytes, d) => bytes.length + uptoBulk d + 1
  | (_, d) => uptoBulk d + 1
 end
def uptoSmall : (H : Type) → List (DataW H) → Bool := fun _ ds => decide (uptoBulkAll ds ≤ 1048576)
def OpenSpec.upto (s : _root_.Go.ChangeSpec) : _root_.Go.OpenSpec := { _root_.Go.OpenSpec.ofChange s with cond := some uptoSmall }

/-- 'siskinlaw26.LinkOnce', WHERE WHAT IT READS IS OF BULK AT MOST 1048576: true; the input reads as it did. -/
def linkOnceUptoRow : OpenClaim := { program := "ytjpccbjgmogclaa", sum := "fb5f7e9392c28e3ef655882f587622b247b9f19dfe720e5722caeec6b6ef0439", func := "siskin/siskinlaw26.LinkOnce", spec := "linkOnce", unfollowed := true, recurses := true, apart := false, narrowed := true }
def LinkOnceUptoSaid : Prop := linkOnceUptoRow.holds Try.pinned (OpenSpec.upto linkOnceSpec)

/-- 'siskinlaw26.LinkComes', WHERE WHAT IT READS IS OF BULK AT MOST 1048576: true; the input reads as it did. -/
def linkComesUptoRow : OpenClaim := { program := "ytjpccbjgmogclaa", sum := "fb5f7e9392c28e3ef655882f587622b247b9f19dfe720e5722caeec6b6ef0439", func := "siskin/siskinlaw26.LinkComes", spec := "linkComes", unfollowed := true, recurses := true, apart := false, narrowed := true }
def LinkComesUptoSaid : Prop := linkComesUptoRow.holds Try.pinned (OpenSpec.upto linkComesSpec)

/-- 'siskinlaw26.LinkNew', WHERE WHAT IT READS IS OF BULK AT MOST 1048576: true; the input reads as it did. -/
def linkNewUptoRow : OpenClaim := { program := "ytjpccbjgmogclaa", sum := "fb5f7e9392c28e3ef655882f587622b247b9f19dfe720e5722caeec6b6ef0439", func := "siskin/siskinlaw26.LinkNew", spec := "linkNew", unfollowed := true, recurses := true, apart := false, narrowed := true }
def LinkNewUptoSaid : Prop := linkNewUptoRow.holds Try.pinned (OpenSpec.upto linkNewSpec)

/-- 'siskinlaw26.LinkDoes', WHERE WHAT IT READS IS OF BULK AT MOST 1048576: true; the input reads as it did. -/
def linkDoesUptoRow : OpenClaim := { program := "ytjpccbjgmogclaa", sum := "fb5f7e9392c28e3ef655882f587622b247b9f19dfe720e5722caeec6b6ef0439", func := "siskin/siskinlaw26.LinkDoes", spec := "linkDoes", unfollowed := true, recurses := true, apart := false, narrowed := true }
def LinkDoesUptoSaid : Prop := linkDoesUptoRow.holds Try.pinned (OpenSpec.upto linkDoesSpec)

/-- 'siskinlaw27.PortTalks', WHERE WHAT IT READS IS OF BULK AT MOST 1048576: true; the input reads as it did. -/
def portTalksUptoRow : OpenClaim := { program := "ytjpccbjgmogclaa", sum := "fb5f7e9392c28e3ef655882f587622b247b9f19dfe720e5722caeec6b6ef0439", func := "siskin/siskinlaw27.PortTalks", spec := "portTalks", unfollowed := true, recurses := true, apart := false, narrowed := true }
def PortTalksUptoSaid : Prop := portTalksUptoRow.holds Try.pinned (OpenSpec.upto portTalksSpec)

/-- 'siskinlaw27.PortTurned', WHERE WHAT IT READS IS OF BULK AT MOST 1048576: true; the input reads as it did. -/
def portTurnedUptoRow : OpenClaim := { program := "ytjpccbjgmogclaa", sum := "fb5f7e9392c28e3ef655882f587622b247b9f19dfe720e5722caeec6b6ef0439", func := "siskin/siskinlaw27.PortTurned", spec := "portTurned", unfollowed := true, recurses := true, apart := false, narrowed := true }
def PortTurnedUptoSaid : Prop := portTurnedUptoRow.holds Try.pinned (OpenSpec.upto portTurnedSpec)

/-- 'siskinlaw32.WorkerOnce', WHERE WHAT IT READS IS OF BULK AT MOST 1048576: true; the input reads as it did. -/
def workerOnceUptoRow : OpenClaim := { program := "ytjpccbjgmogclaa", sum := "fb5f7e9392c28e3ef655882f587622b247b9f19dfe720e5722caeec6b6ef0439", func := "siskin/siskinlaw32.WorkerOnce", spec := "workerOnce", inPlace := ["slices.overlaps[siskin/table.Row]"], unfollowed := true, recurses := true, apart := false, narrowed := true }
def WorkerOnceUptoSaid : Prop := workerOnceUptoRow.holds Try.pinned (OpenSpec.upto workerOnceSpec)

end Rows
end Go.Proofs.Ytjpccbjgmogclaa
