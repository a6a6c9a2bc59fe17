/-
  No cell of these rows narrows 'for every input' (looked for: loops, veiled, ifaces, maps, wideKeys, modest, calm, conditions, laid).
  DERIVED. THE GIVEN ROWS OF THIS SEAT. 12 by the template 'for every input the law returns true; each argument reads behind the call as it read before'; 0 by the template 'total and deterministic' (their statements: YtnobgooojbppbaaTotals.lean).
  GIVEN WITH THE SEED: the statements are not yours to turn. If you find one false, say at which input.
  Laid BY PROGRAM, IN A SANDBOX (cutbox-rows.mjs): the forced cells as the released guide's own fill.sh prints them over the translation d74052c619c1964c… (all of the seat's roots in one cut). By AI agents, Wed Nov 11 2026. No macro, syntax, notation, axiom, sorry.
-/
import Derived.Test.YtnobgooojbppbaaChecked
import GoSem.Claim
import GoSem.ClaimJoined
import GoSem.ClaimMapViews
import Derived.JoinedTies
import Derived.KernelRfl
namespace Go.Proofs.Ytnobgooojbppbaa
/- THE CELL 'sum', in the pinned program and in every row, IS THE sha256 OF THE DUMP (.gsa) THAT YtnobgooojbppbaaProg.lean LOADS. Nothing in Lean hashes anything: it is a label: what it is worth is what the hold of that sum in a sandbox is worth. -/
noncomputable def Try.pinned : Pinned := { name := "ytnobgooojbppbaa", sum := "d74052c619c1964cc5a69093b16b3f576b36595870f85e4adc754d6d8f45c44d", checked := Try.checked }
namespace Rows
def none {H : Type} : Left H := { results := [], args := [] }

/-- 'siskinlaw37.BeatDoes': WHATEVER THE INPUT: true; the input reads as it did. -/
def beatDoesSpec : ChangeSpec := { name := "beatDoes", fn := fun _ => fun
  | [d1, d2] => { results := [.lit (.bool true)], args := [d1, d2] }
  | _ => none }
def beatDoesRow : OpenClaim := { program := "ytnobgooojbppbaa", sum := "d74052c619c1964cc5a69093b16b3f576b36595870f85e4adc754d6d8f45c44d", func := "siskin/siskinlaw37.BeatDoes", spec := "beatDoes", apart := false }
def BeatDoesSaid : Prop := beatDoesRow.holds Try.pinned (OpenSpec.ofChange beatDoesSpec)

/-- ITS FALSE NEIGHBOUR: 'it returns false'. Refute it at one input. -/
def beatDoesWrong : ChangeSpec := { name := "beatDoes", fn := fun _ => fun
  | [d1, d2] => { results := [.lit (.bool false)], args := [d1, d2] }
  | _ => none }
def BeatDoesWrongFalsely : Prop := beatDoesRow.holds Try.pinned (OpenSpec.ofChange beatDoesWrong)

/-- 'siskinlaw06.FlockLists': WHATEVER THE INPUT: true; the input reads as it did. -/
def flockListsSpec : ChangeSpec := { name := "flockLists", fn := fun _ => fun
  | [d1, d2] => { results := [.lit (.bool true)], args := [d1, d2] }
  | _ => none }
def flockListsRow : OpenClaim := { program := "ytnobgooojbppbaa", sum := "d74052c619c1964cc5a69093b16b3f576b36595870f85e4adc754d6d8f45c44d", func := "siskin/siskinlaw06.FlockLists", spec := "flockLists", unfollowed := true, recurses := true, apart := false }
def FlockListsSaid : Prop := flockListsRow.holds Try.pinned (OpenSpec.ofChange flockListsSpec)

/-- ITS FALSE NEIGHBOUR: 'it returns false'. Refute it at one input. -/
def flockListsWrong : ChangeSpec := { name := "flockLists", fn := fun _ => fun
  | [d1, d2] => { results := [.lit (.bool false)], args := [d1, d2] }
  | _ => none }
def FlockListsWrongFalsely : Prop := flockListsRow.holds Try.pinned (OpenSpec.ofChange flockListsWrong)

/-- 'siskinlaw06.FlockSets': WHATEVER THE INPUT: true; the input reads as it did. -/
def flockSetsSpec : ChangeSpec := { name := "flockSets", fn := fun _ => fun
  | [d1, d2, d3] => { results := [.lit (.bool true)], args := [d1, d2, d3] }
  | _ => none }
def flockSetsRow : OpenClaim := { program := "ytnobgooojbppbaa", sum := "d74052c619c1964cc5a69093b16b3f576b36595870f85e4adc754d6d8f45c44d", func := "siskin/siskinlaw06.FlockSets", spec := "flockSets", unfollowed := true, recurses := true, apart := false }
def FlockSetsSaid : Prop := flockSetsRow.holds Try.pinned (OpenSpec.ofChange flockSetsSpec)

/-- ITS FALSE NEIGHBOUR: 'it returns false'. Refute it at one input. -/
def flockSetsWrong : ChangeSpec := { name := "flockSets", fn := fun _ => fun
  | [d1, d2, d3] => { results := [.lit (.bool false)], args := [d1, d2, d3] }
  | _ => none }
def FlockSetsWrongFalsely : Prop := flockSetsRow.holds Try.pinned (OpenSpec.ofChange flockSetsWrong)

/-- 'siskinlaw06.FlockNth': WHATEVER THE INPUT: true; the input reads as it did. -/
def flockNthSpec : ChangeSpec := { name := "flockNth", fn := fun _ => fun
  | [d1, d2] => { results := [.lit (.bool true)], args := [d1, d2] }
  | _ => none }
def flockNthRow : OpenClaim := { program := "ytnobgooojbppbaa", sum := "d74052c619c1964cc5a69093b16b3f576b36595870f85e4adc754d6d8f45c44d", func := "siskin/siskinlaw06.FlockNth", spec := "flockNth", unfollowed := true, recurses := true, apart := false }
def FlockNthSaid : Prop := flockNthRow.holds Try.pinned (OpenSpec.ofChange flockNthSpec)

/-- ITS FALSE NEIGHBOUR: 'it returns false'. Refute it at one input. -/
def flockNthWrong : ChangeSpec := { name := "flockNth", fn := fun _ => fun
  | [d1, d2] => { results := [.lit (.bool false)], args := [d1, d2] }
  | _ => none }
def FlockNthWrongFalsely : Prop := flockNthRow.holds Try.pinned (OpenSpec.ofChange flockNthWrong)

/-- 'siskinlaw07.DrawOnce': WHATEVER THE INPUT: true; the input reads as it did. -/
def drawOnceSpec : ChangeSpec := { name := "drawOnce", fn := fun _ => fun
  | [d1, d2, d3] => { results := [.lit (.bool true)], args := [d1, d2, d3] }
  | _ => none }
def drawOnceRow : OpenClaim := { program := "ytnobgooojbppbaa", sum := "d74052c619c1964cc5a69093b16b3f576b36595870f85e4adc754d6d8f45c44d", func := "siskin/siskinlaw07.DrawOnce", spec := "drawOnce", unfollowed := true, recurses := true, apart := false }
def DrawOnceSaid : Prop := drawOnceRow.holds Try.pinned (OpenSpec.ofChange drawOnceSpec)

/-- ITS FALSE NEIGHBOUR: 'it returns false'. Refute it at one input. -/
def drawOnceWrong : ChangeSpec := { name := "drawOnce", fn := fun _ => fun
  | [d1, d2, d3] => { results := [.lit (.bool false)], args := [d1, d2, d3] }
  | _ => none }
def DrawOnceWrongFalsely : Prop := drawOnceRow.holds Try.pinned (OpenSpec.ofChange drawOnceWrong)

/-- 'siskinlaw07.DrawAny': WHATEVER THE INPUT: true; the input reads as it did. -/
def drawAnySpec : ChangeSpec := { name := "drawAny", fn := fun _ => fun
  | [d1, d2] => { results := [.lit (.bool true)], args := [d1, d2] }
  | _ => none }
def drawAnyRow : OpenClaim := { program := "ytnobgooojbppbaa", sum := "d74052c619c1964cc5a69093b16b3f576b36595870f85e4adc754d6d8f45c44d", func := "siskin/siskinlaw07.DrawAny", spec := "drawAny", unfollowed := true, recurses := true, apart := false }
def DrawAnySaid : Prop := drawAnyRow.holds Try.pinned (OpenSpec.ofChange drawAnySpec)

/-- ITS FALSE NEIGHBOUR: 'it returns false'. Refute it at one input. -/
def drawAnyWrong : ChangeSpec := { name := "drawAny", fn := fun _ => fun
  | [d1, d2] => { results := [.lit (.bool false)], args := [d1, d2] }
  | _ => none }
def DrawAnyWrongFalsely : Prop := drawAnyRow.holds Try.pinned (OpenSpec.ofChange drawAnyWrong)

/-- 'siskinlaw07.DrawPlays': WHATEVER THE INPUT: true; the input reads as it did. -/
def drawPlaysSpec : ChangeSpec := { name := "drawPlays", fn := fun _ => fun
  | [d1, d2] => { results := [.lit (.bool true)], args := [d1, d2] }
  | _ => none }
def drawPlaysRow : OpenClaim := { program := "ytnobgooojbppbaa", sum := "d74052c619c1964cc5a69093b16b3f576b36595870f85e4adc754d6d8f45c44d", func := "siskin/siskinlaw07.DrawPlays", spec := "drawPlays", unfollowed := true, recurses := true, apart := false }
def DrawPlaysSaid : Prop := drawPlaysRow.holds Try.pinned (OpenSpec.ofChange drawPlaysSpec)

/-- ITS FALSE NEIGHBOUR: 'it returns false'. Refute it at one input. -/
def drawPlaysWrong : ChangeSpec := { name := "drawPlays", fn := fun _ => fun
  | [d1, d2] => { results := [.lit (.bool false)], args := [d1, d2] }
  | _ => none }
def DrawPlaysWrongFalsely : Prop := drawPlaysRow.holds Try.pinned (OpenSpec.ofChange drawPlaysWrong)

/-- 'siskinlaw29.QueueDoes': WHATEVER THE INPUT: true; the input reads as it did. -/
def queueDoesSpec : ChangeSpec := { name := "queueDoes", fn := fun _ => fun
  | [d1, d2] => { results := [.lit (.bool true)], args := [d1, d2] }
  | _ => none }
def queueDoesRow : OpenClaim := { program := "ytnobgooojbppbaa", sum := "d74052c619c1964cc5a69093b16b3f576b36595870f85e4adc754d6d8f45c44d", func := "siskin/siskinlaw29.QueueDoes", spec := "queueDoes", unfollowed := true, recurses := true, apart := false }
def QueueDoesSaid : Prop := queueDoesRow.holds Try.pinned (OpenSpec.ofChange queueDoesSpec)

/-- ITS FALSE NEIGHBOUR: 'it returns false'. Refute it at one input. -/
def queueDoesWrong : ChangeSpec := { name := "queueDoes", fn := fun _ => fun
  | [d1, d2] => { results := [.lit (.bool false)], args := [d1, d2] }
  | _ => none }
def QueueDoesWrongFalsely : Prop := queueDoesRow.holds Try.pinned (OpenSpec.ofChange queueDoesWrong)

/-- 'siskinlaw29.QueueKeeps': WHATEVER THE INPUT: true; the input reads as it did. -/
def queueKeepsSpec : ChangeSpec := { name := "queueKeeps", fn := fun _ => fun
  | [d1, d2] => { results := [.lit (.bool true)], args := [d1, d2] }
  | _ => none }
def queueKeepsRow : OpenClaim := { program := "ytnobgooojbppbaa", sum := "d74052c619c1964cc5a69093b16b3f576b36595870f85e4adc754d6d8f45c44d", func := "siskin/siskinlaw29.QueueKeeps", spec := "queueKeeps", unfollowed := true, recurses := true, apart := false }
def QueueKeepsSaid : Prop := queueKeepsRow.holds Try.pinned (OpenSpec.ofChange queueKeepsSpec)

/-- ITS FALSE NEIGHBOUR: 'it returns false'. Refute it at one input. -/
def queueKeepsWrong : ChangeSpec := { name := "queueKeeps", fn := fun _ => fun
  | [d1, d2] => { results := [.lit (.bool false)], args := [d1, d2] }
  | _ => none }
def QueueKeepsWrongFalsely : Prop := queueKeepsRow.holds Try.pinned (OpenSpec.ofChange queueKeepsWrong)

/-- 'siskinlaw35.RoundDoes': WHATEVER THE INPUT: true; the input reads as it did. -/
def roundDoesSpec : ChangeSpec := { name := "roundDoes", fn := fun _ => fun
  | [d1, d2] => { results := [.lit (.bool true)], args := [d1, d2] }
  | _ => none }
def roundDoesRow : OpenClaim := { program := "ytnobgooojbppbaa", sum := "d74052c619c1964cc5a69093b16b3f576b36595870f85e4adc754d6d8f45c44d", func := "siskin/siskinlaw35.RoundDoes", spec := "roundDoes", unfollowed := true, recurses := true, apart := false }
def RoundDoesSaid : Prop := roundDoesRow.holds Try.pinned (OpenSpec.ofChange roundDoesSpec)

/-- ITS FALSE NEIGHBOUR: 'it returns false'. Refute it at one input. -/
def roundDoesWrong : ChangeSpec := { name := "roundDoes", fn := fun _ => fun
  | [d1, d2] => { results := [.lit (.bool false)], args := [d1, d2] }
  | _ => none }
def RoundDoesWrongFalsely : Prop := roundDoesRow.holds Try.pinned (OpenSpec.ofChange roundDoesWrong)

/-- 'siskinlaw30.SlotsDoes': WHATEVER THE INPUT: true; the input reads as it did. -/
def slotsDoesSpec : ChangeSpec := { name := "slotsDoes", fn := fun _ => fun
  | [d1, d2] => { results := [.lit (.bool true)], args := [d1, d2] }
  | _ => none }
def slotsDoesRow : OpenClaim := { program := "ytnobgooojbppbaa", sum := "d74052c619c1964cc5a69093b16b3f576b36595870f85e4adc754d6d8f45c44d", func := "siskin/siskinlaw30.SlotsDoes", spec := "slotsDoes", unfollowed := true, recurses := true, apart := false }
def SlotsDoesSaid : Prop := slotsDoesRow.holds Try.pinned (OpenSpec.ofChange slotsDoesSpec)

/-- ITS FALSE NEIGHBOUR: 'it returns false'. Refute it at one input. -/
def slotsDoesWrong : ChangeSpec := { name := "slotsDoes", fn := fun _ => fun
  | [d1, d2] => { results := [.lit (.bool false)], args := [d1, d2] }
  | _ => none }
def SlotsDoesWrongFalsely : Prop := slotsDoesRow.holds Try.pinned (OpenSpec.ofChange slotsDoesWrong)

/-- 'siskinlaw30.SlotsKeep': WHATEVER THE INPUT: true; the input reads as it did. -/
def slotsKeepSpec : ChangeSpec := { name := "slotsKeep", fn := fun _ => fun
  | [d1, d2] => { results := [.lit (.bool true)], args := [d1, d2] }
  | _ => none }
def slotsKeepRow : OpenClaim := { program := "ytnobgooojbppbaa", sum := "d74052c619c1964cc5a69093b16b3f576b36595870f85e4adc754d6d8f45c44d", func := "siskin/siskinlaw30.SlotsKeep", spec := "slotsKeep", unfollowed := true, recurses := true, apart := false }
def SlotsKeepSaid : Prop := slotsKeepRow.holds Try.pinned (OpenSpec.ofChange slotsKeepSpec)

/-- ITS FALSE NEIGHBOUR: 'it returns false'. Refute it at one input. -/
def slotsKeepWrong : ChangeSpec := { name := "slotsKeep", fn := fun _ => fun
  | [d1, d2] => { results := [.lit (.bool false)], args := [d1, d2] }
  | _ => none }
def SlotsKeepWrongFalsely : Prop := slotsKeepRow.holds Try.pinned (OpenSpec.ofChange slotsKeepWrong)

/- THE SECOND FORM. 'bulk': how many values and letters a reading holds, each counted each time it is reached (what is shared counts as often as it is met; a slice's spare places count too). A statement '..UptoSaid' is the law's where the arguments, and the package variables that the reading takes, are together of bulk at most 1048576: NARROWER than '..Said'. Prove '..Said' where nothing that the law and all that it calls make is longer than what came in: it says more and counts as full. Else prove '..UptoSaid'. A law counts once. -/
mutual
def uptoBulk {H : Type} : DataW H → Nat
  | .lit (.string bytes) => bytes.length + 1
  | .lit _ => 1
  | .nil => 1
  | .ptr d => uptoBulk d + 1
  | .slice elems spare => uptoBulkAll elems + uptoBulkAll spare + 1
  | .agg parts => uptoBulkAll parts + 1
  | .iface _ d => uptoBulk d + 1
  | .map entries => uptoBulkEntries entries + 1
  | .held _ => 1
def uptoBulkAll {H : Type} : List (DataW H) → Nat
  | [] => 0
  | d :: r => uptoBulk d + uptoBulkAll r
def uptoBulkEntries {H : Type} : List (Lit × DataW H) → Nat
  | [] => 0
  | x :: r => uptoBulkEntry x + uptoBulkEntries r
def uptoBulkEntry {H : Type} : Lit × DataW H → Nat
  | (.string bytes, d) => bytes.length + uptoBulk d + 1
  | (_, d) => uptoBulk d + 1
 end
def uptoSmall : (H : Type) → List (DataW H) → Bool := fun _ ds => decide (uptoBulkAll ds ≤ 1048576)
def OpenSpec.upto (s : _root_.Go.ChangeSpec) : _root_.Go.OpenSpec := { _root_.Go.OpenSpec.ofChange s with cond := some uptoSmall }

/-- 'siskinlaw37.BeatDoes', WHERE WHAT IT READS IS OF BULK AT MOST 1048576: true; the input reads as it did. -/
def beatDoesUptoRow : OpenClaim := { program := "ytnobgooojbppbaa", sum := "d74052c619c1964cc5a69093b16b3f576b36595870f85e4adc754d6d8f45c44d", func := "siskin/siskinlaw37.BeatDoes", spec := "beatDoes", apart := false, narrowed := true }
def BeatDoesUptoSaid : Prop := beatDoesUptoRow.holds Try.pinned (OpenSpec.upto beatDoesSpec)

/-- 'siskinlaw06.FlockLists', WHERE WHAT IT READS IS OF BULK AT MOST 1048576: true; the input reads as it did. -/
def flockListsUptoRow : OpenClaim := { program := "ytnobgooojbppbaa", sum := "d74052c619c1964cc5a69093b16b3f576b36595870f85e4adc754d6d8f45c44d", func := "siskin/siskinlaw06.FlockLists", spec := "flockLists", unfollowed := true, recurses := true, apart := false, narrowed := true }
def FlockListsUptoSaid : Prop := flockListsUptoRow.holds Try.pinned (OpenSpec.upto flockListsSpec)

/-- 'siskinlaw06.FlockSets', WHERE WHAT IT READS IS OF BULK AT MOST 1048576: true; the input reads as it did. -/
def flockSetsUptoRow : OpenClaim := { program := "ytnobgooojbppbaa", sum := "d74052c619c1964cc5a69093b16b3f576b36595870f85e4adc754d6d8f45c44d", func := "siskin/siskinlaw06.FlockSets", spec := "flockSets", unfollowed := true, recurses := true, apart := false, narrowed := true }
def FlockSetsUptoSaid : Prop := flockSetsUptoRow.holds Try.pinned (OpenSpec.upto flockSetsSpec)

/-- 'siskinlaw06.FlockNth', WHERE WHAT IT READS IS OF BULK AT MOST 1048576: true; the input reads as it did. -/
def flockNthUptoRow : OpenClaim := { program := "ytnobgooojbppbaa", sum := "d74052c619c1964cc5a69093b16b3f576b36595870f85e4adc754d6d8f45c44d", func := "siskin/siskinlaw06.FlockNth", spec := "flockNth", unfollowed := true, recurses := true, apart := false, narrowed := true }
def FlockNthUptoSaid : Prop := flockNthUptoRow.holds Try.pinned (OpenSpec.upto flockNthSpec)

/-- 'siskinlaw07.DrawOnce', WHERE WHAT IT READS IS OF BULK AT MOST 1048576: true; the input reads as it did. -/
def drawOnceUptoRow : OpenClaim := { program := "ytnobgooojbppbaa", sum := "d74052c619c1964cc5a69093b16b3f576b36595870f85e4adc754d6d8f45c44d", func := "siskin/siskinlaw07.DrawOnce", spec := "drawOnce", unfollowed := true, recurses := true, apart := false, narrowed := true }
def DrawOnceUptoSaid : Prop := drawOnceUptoRow.holds Try.pinned (OpenSpec.upto drawOnceSpec)

/-- 'siskinlaw07.DrawAny', WHERE WHAT IT READS IS OF BULK AT MOST 1048576: true; the input reads as it did. -/
def drawAnyUptoRow : OpenClaim := { program := "ytnobgooojbppbaa", sum := "d74052c619c1964cc5a69093b16b3f576b36595870f85e4adc754d6d8f45c44d", func := "siskin/siskinlaw07.DrawAny", spec := "drawAny", unfollowed := true, recurses := true, apart := false, narrowed := true }
def DrawAnyUptoSaid : Prop := drawAnyUptoRow.holds Try.pinned (OpenSpec.upto drawAnySpec)

/-- 'siskinlaw07.DrawPlays', WHERE WHAT IT READS IS OF BULK AT MOST 1048576: true; the input reads as it did. -/
def drawPlaysUptoRow : OpenClaim := { program := "ytnobgooojbppbaa", sum := "d74052c619c1964cc5a69093b16b3f576b36595870f85e4adc754d6d8f45c44d", func := "siskin/siskinlaw07.DrawPlays", spec := "drawPlays", unfollowed := true, recurses := true, apart := false, narrowed := true }
def DrawPlaysUptoSaid : Prop := drawPlaysUptoRow.holds Try.pinned (OpenSpec.upto drawPlaysSpec)

/-- 'siskinlaw29.QueueDoes', WHERE WHAT IT READS IS OF BULK AT MOST 1048576: true; the input reads as it did. -/
def queueDoesUptoRow : OpenClaim := { program := "ytnobgooojbppbaa", sum := "d74052c619c1964cc5a69093b16b3f576b36595870f85e4adc754d6d8f45c44d", func := "siskin/siskinlaw29.QueueDoes", spec := "queueDoes", unfollowed := true, recurses := true, apart := false, narrowed := true }
def QueueDoesUptoSaid : Prop := queueDoesUptoRow.holds Try.pinned (OpenSpec.upto queueDoesSpec)

/-- 'siskinlaw29.QueueKeeps', WHERE WHAT IT READS IS OF BULK AT MOST 1048576: true; the input reads as it did. -/
def queueKeepsUptoRow : OpenClaim := { program := "ytnobgooojbppbaa", sum := "d74052c619c1964cc5a69093b16b3f576b36595870f85e4adc754d6d8f45c44d", func := "siskin/siskinlaw29.QueueKeeps", spec := "queueKeeps", unfollowed := true, recurses := true, apart := false, narrowed := true }
def QueueKeepsUptoSaid : Prop := queueKeepsUptoRow.holds Try.pinned (OpenSpec.upto queueKeepsSpec)

/-- 'siskinlaw35.RoundDoes', WHERE WHAT IT READS IS OF BULK AT MOST 1048576: true; the input reads as it did. -/
def roundDoesUptoRow : OpenClaim := { program := "ytnobgooojbppbaa", sum := "d74052c619c1964cc5a69093b16b3f576b36595870f85e4adc754d6d8f45c44d", func := "siskin/siskinlaw35.RoundDoes", spec := "roundDoes", unfollowed := true, recurses := true, apart := false, narrowed := true }
def RoundDoesUptoSaid : Prop := roundDoesUptoRow.holds Try.pinned (OpenSpec.upto roundDoesSpec)

/-- 'siskinlaw30.SlotsDoes', WHERE WHAT IT READS IS OF BULK AT MOST 1048576: true; the input reads as it did. -/
def slotsDoesUptoRow : OpenClaim := { program := "ytnobgooojbppbaa", sum := "d74052c619c1964cc5a69093b16b3f576b36595870f85e4adc754d6d8f45c44d", func := "siskin/siskinlaw30.SlotsDoes", spec := "slotsDoes", unfollowed := true, recurses := true, apart := false, narrowed := true }
def SlotsDoesUptoSaid : Prop := slotsDoesUptoRow.holds Try.pinned (OpenSpec.upto slotsDoesSpec)

/-- 'siskinlaw30.SlotsKeep', WHERE WHAT IT READS IS OF BULK AT MOST 1048576: true; the input reads as it did. -/
def slotsKeepUptoRow : OpenClaim := { program := "ytnobgooojbppbaa", sum := "d74052c619c1964cc5a69093b16b3f576b36595870f85e4adc754d6d8f45c44d", func := "siskin/siskinlaw30.SlotsKeep", spec := "slotsKeep", unfollowed := true, recurses := true, apart := false, narrowed := true }
def SlotsKeepUptoSaid : Prop := slotsKeepUptoRow.holds Try.pinned (OpenSpec.upto slotsKeepSpec)

end Rows
end Go.Proofs.Ytnobgooojbppbaa
