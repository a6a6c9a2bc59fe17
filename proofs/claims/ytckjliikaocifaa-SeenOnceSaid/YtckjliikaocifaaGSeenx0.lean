/- What calls of the given functions of the program come to, by plain functions over numbers and lists; no conditions beyond those typed. -/
import Derived.Test.YtckjliikaocifaaProg
import Derived.Below
import Derived.Deep.Draws
import Derived.Deep.AppendLies
import Derived.Maps.AppendAt
import Derived.OwnWalk
import Derived.Laws.BytesArg
import Derived.Laws.MakeOwn
import Derived.Laws.OwnMore
import Derived.Deep.OwnRows
import Derived.Tactics
import Derived.Lib.ConvBytes
import Derived.Laws.Slices
import Derived.WalkKit
import Derived.KernelRfl
import Derived.RowKit3
import Derived.Deep.LoopGhost
import Derived.Deep.QuietTactic
import Derived.BigQuiet
import Derived.WideLaws
import Derived.Deep.DeepCutAuto
import Derived.Deep.CutBlock
import Derived.Deep.RegionHeld3
import Derived.Laws.Rows
import Derived.Lib.AppendStr
import Derived.ArgAppend
import Derived.Laws.IdiomCopy
import Derived.OrdersHeld
import Derived.Laws.BitsLemmas
import Derived.RowKit
import Derived.Test.YtckjliikaocifaaWWords
import Derived.Test.YtckjliikaocifaaWLast
import Derived.Test.YtckjliikaocifaaWTab
import Derived.Test.YtckjliikaocifaaWFour
import Derived.Test.YtckjliikaocifaaWQPut
import Derived.Test.YtckjliikaocifaaWApart
import Derived.Test.YtckjliikaocifaaWArr
import Derived.Test.YtckjliikaocifaaWZeros
import Derived.Test.YtckjliikaocifaaWFoot
import Derived.Test.YtckjliikaocifaaWKept
import Derived.Test.YtckjliikaocifaaWShare
import Derived.Test.YtckjliikaocifaaWN
import Derived.Test.YtckjliikaocifaaWFootNe
import Derived.Test.YtckjliikaocifaaWAt
import Derived.Test.YtckjliikaocifaaWEqStruct
import Derived.Test.YtckjliikaocifaaWRepsOne
import Derived.Test.YtckjliikaocifaaWInv
import Derived.Test.YtckjliikaocifaaWInvWords
import Derived.Test.YtckjliikaocifaaWGuard
import Derived.Test.YtckjliikaocifaaWNEv
import Derived.Test.YtckjliikaocifaaWMore
import Derived.Test.YtckjliikaocifaaXWords
import Derived.Lib.LazyBuf
namespace Go.Proofs.Ytckjliikaocifaa.GSeen
open Go.RowKit Go.Proofs.YtckjliikaocifaaW.PrintWords Go.Proofs.YtckjliikaocifaaW.PrintLast Go.Proofs.YtckjliikaocifaaW.PrintMore
attribute [local go_sem] max2_int min2_int max_two min_two max_three min_three max_four min_four   -- for this text's walks alone
set_option linter.unusedVariables false
set_option linter.unusedSimpArgs false



def errW : Option Int → Value
  | none => .nilIface
  | some c => .iface 0 (.int .i64 c)
theorem errW_none : errW none = .nilIface := rfl
theorem errW_some (c : Int) : errW (some c) = .iface 0 (.int .i64 c) := rfl

-- the values' own types
/-! #### struct type 46 -/
structure S46 where
  f0 : Int
  f1 : Int
  f2 : Int
def z46 : S46 := ⟨(0 : Int), (0 : Int), (0 : Int)⟩
def k46 : Kd S46 := Kd.iso (Kd.pair (Kd.int .i64) (Kd.pair (Kd.int .i64) (Kd.int .i64))) (fun x : S46 => (x.f0, x.f1, x.f2))
theorem k46_open {w : World} {x : S46} {cs : List Value} (h : k46.K w x cs) : cs = [.int .i64 x.f0, .int .i64 x.f1, .int .i64 x.f2] := by
  obtain ⟨_, _, rfl, rfl, ⟨_, _, rfl, rfl, rfl⟩⟩ := h
  exact rfl
theorem k46_openM {w : World} {base : Nat} {ok : Nat → Prop} {x : S46} {cs : List Value} (h : k46.M w base ok x cs) : cs = [.int .i64 x.f0, .int .i64 x.f1, .int .i64 x.f2] := by
  obtain ⟨_, _, rfl, rfl, ⟨_, _, rfl, rfl, rfl⟩⟩ := h
  exact rfl
theorem k46_mk (w : World) (x : S46)  : k46.K w x [.int .i64 x.f0, .int .i64 x.f1, .int .i64 x.f2] := ⟨[.int .i64 x.f0], [.int .i64 x.f1, .int .i64 x.f2], rfl, rfl, ⟨[.int .i64 x.f1], [.int .i64 x.f2], rfl, rfl, rfl⟩⟩
theorem k46_mkM (w : World) (base : Nat) (ok : Nat → Prop) (x : S46)  : k46.M w base ok x [.int .i64 x.f0, .int .i64 x.f1, .int .i64 x.f2] := ⟨[.int .i64 x.f0], [.int .i64 x.f1, .int .i64 x.f2], rfl, rfl, ⟨[.int .i64 x.f1], [.int .i64 x.f2], rfl, rfl, rfl⟩⟩
def rd_T46 (xs : List S46) (i : Int) : S46 := xs.getD i.toNat z46
theorem at_T46 {w : World} {A : Option Addr} {n : Nat} {xs : List S46} (h : Kd.C k46 w A n xs) (i : Int) (h0 : 0 ≤ i) (h1 : i < n) : ∃ ad , A = some ad ∧ w.cell? (ad.add (i.toNat * 3)) = some (.int .i64 (rd_T46 xs i).f0) ∧ w.cell? ⟨(ad.add (i.toNat * 3)).block, (ad.add (i.toNat * 3)).off + 1, none⟩ = some (.int .i64 (rd_T46 xs i).f1) ∧ w.cell? ⟨(ad.add (i.toNat * 3)).block, (ad.add (i.toNat * 3)).off + 2, none⟩ = some (.int .i64 (rd_T46 xs i).f2) := by
  obtain ⟨ad, c, e, _, hK, hc0⟩ := Kd.C_get h z46 i h0 h1
  have hc : ∀ j u, c[j]? = some u → w.cell? (ad.add (i.toNat * 3 + j)) = some u := hc0
  obtain rfl := k46_open hK
  exact ⟨ad, e, hc 0 _ rfl, by rw [← add_field _ _ 1 (by omega)]; exact hc 1 _ rfl, by rw [← add_field _ _ 2 (by omega)]; exact hc 2 _ rfl⟩

/-! #### struct type 47 -/
structure S47 where
  f0 : Int
  f1 : Int
  f2 : Int
def z47 : S47 := ⟨(0 : Int), (0 : Int), (0 : Int)⟩
def k47 : Kd S47 := Kd.iso (Kd.pair (Kd.int .i64) (Kd.pair (Kd.int .i64) (Kd.int .i64))) (fun x : S47 => (x.f0, x.f1, x.f2))
theorem k47_open {w : World} {x : S47} {cs : List Value} (h : k47.K w x cs) : cs = [.int .i64 x.f0, .int .i64 x.f1, .int .i64 x.f2] := by
  obtain ⟨_, _, rfl, rfl, ⟨_, _, rfl, rfl, rfl⟩⟩ := h
  exact rfl
theorem k47_openM {w : World} {base : Nat} {ok : Nat → Prop} {x : S47} {cs : List Value} (h : k47.M w base ok x cs) : cs = [.int .i64 x.f0, .int .i64 x.f1, .int .i64 x.f2] := by
  obtain ⟨_, _, rfl, rfl, ⟨_, _, rfl, rfl, rfl⟩⟩ := h
  exact rfl
theorem k47_mk (w : World) (x : S47)  : k47.K w x [.int .i64 x.f0, .int .i64 x.f1, .int .i64 x.f2] := ⟨[.int .i64 x.f0], [.int .i64 x.f1, .int .i64 x.f2], rfl, rfl, ⟨[.int .i64 x.f1], [.int .i64 x.f2], rfl, rfl, rfl⟩⟩
theorem k47_mkM (w : World) (base : Nat) (ok : Nat → Prop) (x : S47)  : k47.M w base ok x [.int .i64 x.f0, .int .i64 x.f1, .int .i64 x.f2] := ⟨[.int .i64 x.f0], [.int .i64 x.f1, .int .i64 x.f2], rfl, rfl, ⟨[.int .i64 x.f1], [.int .i64 x.f2], rfl, rfl, rfl⟩⟩
def rd_T47 (xs : List S47) (i : Int) : S47 := xs.getD i.toNat z47
theorem at_T47 {w : World} {A : Option Addr} {n : Nat} {xs : List S47} (h : Kd.C k47 w A n xs) (i : Int) (h0 : 0 ≤ i) (h1 : i < n) : ∃ ad , A = some ad ∧ w.cell? (ad.add (i.toNat * 3)) = some (.int .i64 (rd_T47 xs i).f0) ∧ w.cell? ⟨(ad.add (i.toNat * 3)).block, (ad.add (i.toNat * 3)).off + 1, none⟩ = some (.int .i64 (rd_T47 xs i).f1) ∧ w.cell? ⟨(ad.add (i.toNat * 3)).block, (ad.add (i.toNat * 3)).off + 2, none⟩ = some (.int .i64 (rd_T47 xs i).f2) := by
  obtain ⟨ad, c, e, _, hK, hc0⟩ := Kd.C_get h z47 i h0 h1
  have hc : ∀ j u, c[j]? = some u → w.cell? (ad.add (i.toNat * 3 + j)) = some u := hc0
  obtain rfl := k47_open hK
  exact ⟨ad, e, hc 0 _ rfl, by rw [← add_field _ _ 1 (by omega)]; exact hc 1 _ rfl, by rw [← add_field _ _ 2 (by omega)]; exact hc 2 _ rfl⟩

def rd_L3 (xs : List (List S47)) (i : Int) : (List S47) := xs.getD i.toNat ([] : List S47)
theorem at_L3 {w : World} {A : Option Addr} {n : Nat} {xs : List (List S47)} (h : Kd.C (Kd.slice 47 k47) w A n xs) (i : Int) (h0 : 0 ≤ i) (h1 : i < n) : ∃ ad A0 c0, A = some ad ∧ w.cell? (ad.add i.toNat) = some (.slice A0 (rd_L3 xs i).length c0) ∧ (rd_L3 xs i).length ≤ c0 ∧ k47.C w A0 (rd_L3 xs i).length (rd_L3 xs i) := by
  obtain ⟨ad, c, e, _, hK, hc0⟩ := Kd.C_get h ([] : List S47) i h0 h1
  have hc : ∀ j u, c[j]? = some u → w.cell? (ad.add (i.toNat * 1 + j)) = some u := hc0
  obtain ⟨A0, c0, rfl, l0, g0⟩ := hK
  exact ⟨ad, A0, c0, e, by have hq := hc 0 _ rfl; rwa [Nat.mul_one, Nat.add_zero] at hq, l0, g0⟩

def ok46 (y_ : S46) : Prop := (fun n_ => (Lit.int .i64 n_).wf = true) y_.f0 ∧ (fun n_ => (Lit.int .i64 n_).wf = true) y_.f1 ∧ (fun n_ => (Lit.int .i64 n_).wf = true) y_.f2
theorem opens46 : Opens Try.prog k46 46 ok46 := by
  intro H enc W base spare held fuel cs x h
  obtain ⟨xs, n, _, _, hl, hxl, hf⟩ := DataW.trod_struct Try.underlying46 h
  rw [show Try.prog.cellsOf 46 = 3 from by kernel_rfl] at hl
  obtain ⟨y0, a0, b0⟩ := (opens_int Try.underlying3) H enc W base spare held n _ _ ((hf 0 _ rfl).trans (List.getElem?_eq_getElem (by rw [hxl]; decide)))
  replace a0 : (Kd.int .i64).K W y0 ((cs.drop (0)).take (Try.prog.cellsOf 3)) := a0
  rw [show Try.prog.cellsOf 3 = 1 from by kernel_rfl] at a0
  obtain ⟨y1, a1, b1⟩ := (opens_int Try.underlying3) H enc W base spare held n _ _ ((hf 1 _ rfl).trans (List.getElem?_eq_getElem (by rw [hxl]; decide)))
  replace a1 : (Kd.int .i64).K W y1 ((cs.drop (1)).take (Try.prog.cellsOf 3)) := a1
  rw [show Try.prog.cellsOf 3 = 1 from by kernel_rfl] at a1
  obtain ⟨y2, a2, b2⟩ := (opens_int Try.underlying3) H enc W base spare held n _ _ ((hf 2 _ rfl).trans (List.getElem?_eq_getElem (by rw [hxl]; decide)))
  replace a2 : (Kd.int .i64).K W y2 ((cs.drop (2)).take (Try.prog.cellsOf 3)) := a2
  rw [show Try.prog.cellsOf 3 = 1 from by kernel_rfl] at a2
  refine ⟨⟨y0, y1, y2⟩, ?_, b0, b1, b2⟩
  have z := (opens_pair a0 rfl (opens_pair a1 rfl (opens_last a2 hl rfl)))
  rw [List.drop_zero] at z
  exact z
def ok47 (y_ : S47) : Prop := (fun n_ => (Lit.int .i64 n_).wf = true) y_.f0 ∧ (fun n_ => (Lit.int .i64 n_).wf = true) y_.f1 ∧ (fun n_ => (Lit.int .i64 n_).wf = true) y_.f2
theorem opens47 : Opens Try.prog k47 47 ok47 := by
  intro H enc W base spare held fuel cs x h
  obtain ⟨xs, n, _, _, hl, hxl, hf⟩ := DataW.trod_array Try.underlying47 h
  rw [show Try.prog.cellsOf 47 = 3 from by kernel_rfl] at hl
  obtain ⟨y0, a0, b0⟩ := (opens_int Try.underlying3) H enc W base spare held n _ _ ((hf 0 (by decide)).trans (List.getElem?_eq_getElem (by rw [hxl]; decide)))
  replace a0 : (Kd.int .i64).K W y0 ((cs.drop (0 * Try.prog.cellsOf 3)).take (Try.prog.cellsOf 3)) := a0
  rw [show Try.prog.cellsOf 3 = 1 from by kernel_rfl] at a0
  rw [show 0 * 1 = 0 from rfl] at a0
  obtain ⟨y1, a1, b1⟩ := (opens_int Try.underlying3) H enc W base spare held n _ _ ((hf 1 (by decide)).trans (List.getElem?_eq_getElem (by rw [hxl]; decide)))
  replace a1 : (Kd.int .i64).K W y1 ((cs.drop (1 * Try.prog.cellsOf 3)).take (Try.prog.cellsOf 3)) := a1
  rw [show Try.prog.cellsOf 3 = 1 from by kernel_rfl] at a1
  rw [show 1 * 1 = 1 from rfl] at a1
  obtain ⟨y2, a2, b2⟩ := (opens_int Try.underlying3) H enc W base spare held n _ _ ((hf 2 (by decide)).trans (List.getElem?_eq_getElem (by rw [hxl]; decide)))
  replace a2 : (Kd.int .i64).K W y2 ((cs.drop (2 * Try.prog.cellsOf 3)).take (Try.prog.cellsOf 3)) := a2
  rw [show Try.prog.cellsOf 3 = 1 from by kernel_rfl] at a2
  rw [show 2 * 1 = 2 from rfl] at a2
  refine ⟨⟨y0, y1, y2⟩, ?_, b0, b1, b2⟩
  have z := (opens_pair a0 rfl (opens_pair a1 rfl (opens_last a2 hl rfl)))
  rw [List.drop_zero] at z
  exact z
end Go.Proofs.Ytckjliikaocifaa.GSeen
