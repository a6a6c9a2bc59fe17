/- What calls of the given functions of the program come to, by plain functions over numbers and lists; no conditions beyond those typed. -/
import Derived.Test.YtckjliikaocifaaProg
import Derived.Below
import Derived.Deep.Draws
import Derived.Deep.AppendLies
import Derived.Maps.AppendAt
import Derived.OwnWalk
import Derived.Laws.BytesArg
import Derived.Laws.MakeOwn
import Derived.Laws.OwnMore
import Derived.Deep.OwnRows
import Derived.Tactics
import Derived.Lib.ConvBytes
import Derived.Laws.Slices
import Derived.WalkKit
import Derived.KernelRfl
import Derived.RowKit3
import Derived.Deep.LoopGhost
import Derived.Deep.QuietTactic
import Derived.BigQuiet
import Derived.WideLaws
import Derived.Deep.DeepCutAuto
import Derived.Deep.CutBlock
import Derived.Deep.RegionHeld3
import Derived.Laws.Rows
import Derived.Lib.AppendStr
import Derived.ArgAppend
import Derived.Laws.IdiomCopy
import Derived.OrdersHeld
import Derived.Laws.BitsLemmas
import Derived.RowKit
import Derived.Test.YtckjliikaocifaaWWords
import Derived.Test.YtckjliikaocifaaWLast
import Derived.Test.YtckjliikaocifaaWTab
import Derived.Test.YtckjliikaocifaaWFour
import Derived.Test.YtckjliikaocifaaWQPut
import Derived.Test.YtckjliikaocifaaWApart
import Derived.Test.YtckjliikaocifaaWArr
import Derived.Test.YtckjliikaocifaaWZeros
import Derived.Test.YtckjliikaocifaaWFoot
import Derived.Test.YtckjliikaocifaaWKept
import Derived.Test.YtckjliikaocifaaWShare
import Derived.Test.YtckjliikaocifaaWN
import Derived.Test.YtckjliikaocifaaWFootNe
import Derived.Test.YtckjliikaocifaaWAt
import Derived.Test.YtckjliikaocifaaWEqStruct
import Derived.Test.YtckjliikaocifaaWRepsOne
import Derived.Test.YtckjliikaocifaaWInv
import Derived.Test.YtckjliikaocifaaWInvWords
import Derived.Test.YtckjliikaocifaaWGuard
import Derived.Test.YtckjliikaocifaaWNEv
import Derived.Test.YtckjliikaocifaaWMore
import Derived.Test.YtckjliikaocifaaXWords
import Derived.Lib.LazyBuf
namespace Go.Proofs.Ytckjliikaocifaa.GPace
open Go.RowKit Go.Proofs.YtckjliikaocifaaW.PrintWords Go.Proofs.YtckjliikaocifaaW.PrintLast Go.Proofs.YtckjliikaocifaaW.PrintMore
attribute [local go_sem] max2_int min2_int max_two min_two max_three min_three max_four min_four   -- for this text's walks alone
set_option linter.unusedVariables false
set_option linter.unusedSimpArgs false



def errW : Option Int → Value
  | none => .nilIface
  | some c => .iface 0 (.int .i64 c)
theorem errW_none : errW none = .nilIface := rfl
theorem errW_some (c : Int) : errW (some c) = .iface 0 (.int .i64 c) := rfl

-- the values' own types
/-! #### struct type 26 -/
structure S26 where
  f0 : Int
  f1 : Int
def z26 : S26 := ⟨(0 : Int), (0 : Int)⟩
def k26 : Kd S26 := Kd.iso (Kd.pair (Kd.int .i64) (Kd.int .i64)) (fun x : S26 => (x.f0, x.f1))
theorem k26_open {w : World} {x : S26} {cs : List Value} (h : k26.K w x cs) : cs = [.int .i64 x.f0, .int .i64 x.f1] := by
  obtain ⟨_, _, rfl, rfl, rfl⟩ := h
  exact rfl
theorem k26_openM {w : World} {base : Nat} {ok : Nat → Prop} {x : S26} {cs : List Value} (h : k26.M w base ok x cs) : cs = [.int .i64 x.f0, .int .i64 x.f1] := by
  obtain ⟨_, _, rfl, rfl, rfl⟩ := h
  exact rfl
theorem k26_mk (w : World) (x : S26)  : k26.K w x [.int .i64 x.f0, .int .i64 x.f1] := ⟨[.int .i64 x.f0], [.int .i64 x.f1], rfl, rfl, rfl⟩
theorem k26_mkM (w : World) (base : Nat) (ok : Nat → Prop) (x : S26)  : k26.M w base ok x [.int .i64 x.f0, .int .i64 x.f1] := ⟨[.int .i64 x.f0], [.int .i64 x.f1], rfl, rfl, rfl⟩
def rd_T26 (xs : List S26) (i : Int) : S26 := xs.getD i.toNat z26
theorem at_T26 {w : World} {A : Option Addr} {n : Nat} {xs : List S26} (h : Kd.C k26 w A n xs) (i : Int) (h0 : 0 ≤ i) (h1 : i < n) : ∃ ad , A = some ad ∧ w.cell? (ad.add (i.toNat * 2)) = some (.int .i64 (rd_T26 xs i).f0) ∧ w.cell? ⟨(ad.add (i.toNat * 2)).block, (ad.add (i.toNat * 2)).off + 1, none⟩ = some (.int .i64 (rd_T26 xs i).f1) := by
  obtain ⟨ad, c, e, _, hK, hc0⟩ := Kd.C_get h z26 i h0 h1
  have hc : ∀ j u, c[j]? = some u → w.cell? (ad.add (i.toNat * 2 + j)) = some u := hc0
  obtain rfl := k26_open hK
  exact ⟨ad, e, hc 0 _ rfl, by rw [← add_field _ _ 1 (by omega)]; exact hc 1 _ rfl⟩

def ok26 (y_ : S26) : Prop := (fun n_ => (Lit.int .i64 n_).wf = true) y_.f0 ∧ (fun n_ => (Lit.int .i64 n_).wf = true) y_.f1
theorem opens26 : Opens Try.prog k26 26 ok26 := by
  intro H enc W base spare held fuel cs x h
  obtain ⟨xs, n, _, _, hl, hxl, hf⟩ := DataW.trod_struct Try.underlying26 h
  rw [show Try.prog.cellsOf 26 = 2 from by kernel_rfl] at hl
  obtain ⟨y0, a0, b0⟩ := (opens_int Try.underlying3) H enc W base spare held n _ _ ((hf 0 _ rfl).trans (List.getElem?_eq_getElem (by rw [hxl]; decide)))
  replace a0 : (Kd.int .i64).K W y0 ((cs.drop (0)).take (Try.prog.cellsOf 3)) := a0
  rw [show Try.prog.cellsOf 3 = 1 from by kernel_rfl] at a0
  obtain ⟨y1, a1, b1⟩ := (opens_int Try.underlying3) H enc W base spare held n _ _ ((hf 1 _ rfl).trans (List.getElem?_eq_getElem (by rw [hxl]; decide)))
  replace a1 : (Kd.int .i64).K W y1 ((cs.drop (1)).take (Try.prog.cellsOf 3)) := a1
  rw [show Try.prog.cellsOf 3 = 1 from by kernel_rfl] at a1
  refine ⟨⟨y0, y1⟩, ?_, b0, b1⟩
  have z := (opens_pair a0 rfl (opens_last a1 hl rfl))
  rw [List.drop_zero] at z
  exact z
end Go.Proofs.Ytckjliikaocifaa.GPace
