/- What calls of the given functions of the program come to, by plain functions over numbers and lists; no conditions beyond those typed. -/
import Derived.Test.YtckjliikaocifabProg
import Derived.Below
import Derived.Deep.Draws
import Derived.Deep.AppendLies
import Derived.Maps.AppendAt
import Derived.OwnWalk
import Derived.Laws.BytesArg
import Derived.Laws.MakeOwn
import Derived.Laws.OwnMore
import Derived.Deep.OwnRows
import Derived.Tactics
import Derived.Lib.ConvBytes
import Derived.Laws.Slices
import Derived.WalkKit
import Derived.KernelRfl
import Derived.RowKit3
import Derived.Deep.LoopGhost
import Derived.Deep.QuietTactic
import Derived.BigQuiet
import Derived.WideLaws
import Derived.Deep.DeepCutAuto
import Derived.Deep.CutBlock
import Derived.Deep.RegionHeld3
import Derived.Laws.Rows
import Derived.Lib.AppendStr
import Derived.ArgAppend
import Derived.Laws.IdiomCopy
import Derived.OrdersHeld
import Derived.Laws.BitsLemmas
import Derived.RowKit
import Derived.Test.YtckjliikaocifabWWords
import Derived.Test.YtckjliikaocifabWLast
import Derived.Test.YtckjliikaocifabWTab
import Derived.Test.YtckjliikaocifabWFour
import Derived.Test.YtckjliikaocifabWQPut
import Derived.Test.YtckjliikaocifabWApart
import Derived.Test.YtckjliikaocifabWArr
import Derived.Test.YtckjliikaocifabWZeros
import Derived.Test.YtckjliikaocifabWFoot
import Derived.Test.YtckjliikaocifabWKept
import Derived.Test.YtckjliikaocifabWShare
import Derived.Test.YtckjliikaocifabWN
import Derived.Test.YtckjliikaocifabWFootNe
import Derived.Test.YtckjliikaocifabWAt
import Derived.Test.YtckjliikaocifabWEqStruct
import Derived.Test.YtckjliikaocifabWRepsOne
import Derived.Test.YtckjliikaocifabWInv
import Derived.Test.YtckjliikaocifabWInvWords
import Derived.Test.YtckjliikaocifabWGuard
import Derived.Test.YtckjliikaocifabWNEv
import Derived.Test.YtckjliikaocifabWMore
import Derived.Test.YtckjliikaocifabXWords
import Derived.Lib.LazyBuf
namespace Go.Proofs.Ytckjliikaocifab.GBeat
open Go.RowKit Go.Proofs.YtckjliikaocifabW.PrintWords Go.Proofs.YtckjliikaocifabW.PrintLast Go.Proofs.YtckjliikaocifabW.PrintMore
attribute [local go_sem] max2_int min2_int max_two min_two max_three min_three max_four min_four   -- for this text's walks alone
set_option linter.unusedVariables false
set_option linter.unusedSimpArgs false



def errW : Option Int → Value
  | none => .nilIface
  | some c => .iface 0 (.int .i64 c)
theorem errW_none : errW none = .nilIface := rfl
theorem errW_some (c : Int) : errW (some c) = .iface 0 (.int .i64 c) := rfl

theorem info3 : (Try.prog.info? 3).map (fun i => (i.zero, i.size, i.bytes)) = some (some (.int .i64 0), 1, 8) := by kernel_rfl
-- the values' own types
def rd_L1 (xs : List (List Int)) (i : Int) : (List Int) := xs.getD i.toNat ([] : List Int)
theorem at_L1 {w : World} {A : Option Addr} {n : Nat} {xs : List (List Int)} (h : Kd.C (Kd.slice 3 (Kd.int .i64)) w A n xs) (i : Int) (h0 : 0 ≤ i) (h1 : i < n) : ∃ ad A0 c0, A = some ad ∧ w.cell? (ad.add i.toNat) = some (.slice A0 (rd_L1 xs i).length c0) ∧ (rd_L1 xs i).length ≤ c0 ∧ (Kd.int .i64).C w A0 (rd_L1 xs i).length (rd_L1 xs i) := by
  obtain ⟨ad, c, e, _, hK, hc0⟩ := Kd.C_get h ([] : List Int) i h0 h1
  have hc : ∀ j u, c[j]? = some u → w.cell? (ad.add (i.toNat * 1 + j)) = some u := hc0
  obtain ⟨A0, c0, rfl, l0, g0⟩ := hK
  exact ⟨ad, A0, c0, e, by have hq := hc 0 _ rfl; rwa [Nat.mul_one, Nat.add_zero] at hq, l0, g0⟩

/-! #### struct type 45 -/
structure S45 where
  f0 : Int
  f1 : Int
  f2 : (List Int)
def z45 : S45 := ⟨(0 : Int), (0 : Int), ([] : List Int)⟩
def k45 : Kd S45 := Kd.iso (Kd.pair (Kd.int .i64) (Kd.pair (Kd.int .i64) (Kd.slice 3 (Kd.int .i64)))) (fun x : S45 => (x.f0, x.f1, x.f2))
theorem k45_open {w : World} {x : S45} {cs : List Value} (h : k45.K w x cs) : ∃ A2 c2, cs = [.int .i64 x.f0, .int .i64 x.f1, .slice A2 x.f2.length c2] ∧ x.f2.length ≤ c2 ∧ (Kd.int .i64).C w A2 x.f2.length x.f2 := by
  obtain ⟨_, _, rfl, rfl, ⟨_, _, rfl, rfl, ⟨A2, c2, rfl, l2, g2⟩⟩⟩ := h
  exact ⟨A2, c2, rfl, l2, g2⟩
theorem k45_openM {w : World} {base : Nat} {ok : Nat → Prop} {x : S45} {cs : List Value} (h : k45.M w base ok x cs) : ∃ v2, cs = [.int .i64 x.f0, .int .i64 x.f1, v2] ∧ (Kd.int .i64).R 3 w base ok v2 x.f2 := by
  obtain ⟨_, _, rfl, rfl, ⟨_, _, rfl, rfl, ⟨v2, rfl, g2⟩⟩⟩ := h
  exact ⟨v2, rfl, g2⟩
theorem k45_mk (w : World) (x : S45) {A2 : Option Addr} {c2 : Nat} (l2 : x.f2.length ≤ c2) (g2 : (Kd.int .i64).C w A2 x.f2.length x.f2) : k45.K w x [.int .i64 x.f0, .int .i64 x.f1, .slice A2 x.f2.length c2] := ⟨[.int .i64 x.f0], [.int .i64 x.f1, .slice A2 x.f2.length c2], rfl, rfl, ⟨[.int .i64 x.f1], [.slice A2 x.f2.length c2], rfl, rfl, ⟨A2, c2, rfl, l2, g2⟩⟩⟩
theorem k45_mkM (w : World) (base : Nat) (ok : Nat → Prop) (x : S45) {v2 : Value} (g2 : (Kd.int .i64).R 3 w base ok v2 x.f2) : k45.M w base ok x [.int .i64 x.f0, .int .i64 x.f1, v2] := ⟨[.int .i64 x.f0], [.int .i64 x.f1, v2], rfl, rfl, ⟨[.int .i64 x.f1], [v2], rfl, rfl, ⟨v2, rfl, g2⟩⟩⟩
def rd_T45 (xs : List S45) (i : Int) : S45 := xs.getD i.toNat z45
theorem at_T45 {w : World} {A : Option Addr} {n : Nat} {xs : List S45} (h : Kd.C k45 w A n xs) (i : Int) (h0 : 0 ≤ i) (h1 : i < n) : ∃ ad A2 c2, A = some ad ∧ w.cell? (ad.add (i.toNat * 3)) = some (.int .i64 (rd_T45 xs i).f0) ∧ w.cell? ⟨(ad.add (i.toNat * 3)).block, (ad.add (i.toNat * 3)).off + 1, none⟩ = some (.int .i64 (rd_T45 xs i).f1) ∧ w.cell? ⟨(ad.add (i.toNat * 3)).block, (ad.add (i.toNat * 3)).off + 2, none⟩ = some (.slice A2 (rd_T45 xs i).f2.length c2) ∧ (rd_T45 xs i).f2.length ≤ c2 ∧ (Kd.int .i64).C w A2 (rd_T45 xs i).f2.length (rd_T45 xs i).f2 := by
  obtain ⟨ad, c, e, _, hK, hc0⟩ := Kd.C_get h z45 i h0 h1
  have hc : ∀ j u, c[j]? = some u → w.cell? (ad.add (i.toNat * 3 + j)) = some u := hc0
  obtain ⟨A2, c2, rfl, l2, g2⟩ := k45_open hK
  exact ⟨ad, A2, c2, e, hc 0 _ rfl, by rw [← add_field _ _ 1 (by omega)]; exact hc 1 _ rfl, by rw [← add_field _ _ 2 (by omega)]; exact hc 2 _ rfl, l2, g2⟩

/-! #### struct type 46 -/
structure S46 where
  f0 : Int
  f1 : Int
  f2 : Int
def z46 : S46 := ⟨(0 : Int), (0 : Int), (0 : Int)⟩
def k46 : Kd S46 := Kd.iso (Kd.pair (Kd.int .i64) (Kd.pair (Kd.int .i64) (Kd.int .i64))) (fun x : S46 => (x.f0, x.f1, x.f2))
theorem k46_open {w : World} {x : S46} {cs : List Value} (h : k46.K w x cs) : cs = [.int .i64 x.f0, .int .i64 x.f1, .int .i64 x.f2] := by
  obtain ⟨_, _, rfl, rfl, ⟨_, _, rfl, rfl, rfl⟩⟩ := h
  exact rfl
theorem k46_openM {w : World} {base : Nat} {ok : Nat → Prop} {x : S46} {cs : List Value} (h : k46.M w base ok x cs) : cs = [.int .i64 x.f0, .int .i64 x.f1, .int .i64 x.f2] := by
  obtain ⟨_, _, rfl, rfl, ⟨_, _, rfl, rfl, rfl⟩⟩ := h
  exact rfl
theorem k46_mk (w : World) (x : S46)  : k46.K w x [.int .i64 x.f0, .int .i64 x.f1, .int .i64 x.f2] := ⟨[.int .i64 x.f0], [.int .i64 x.f1, .int .i64 x.f2], rfl, rfl, ⟨[.int .i64 x.f1], [.int .i64 x.f2], rfl, rfl, rfl⟩⟩
theorem k46_mkM (w : World) (base : Nat) (ok : Nat → Prop) (x : S46)  : k46.M w base ok x [.int .i64 x.f0, .int .i64 x.f1, .int .i64 x.f2] := ⟨[.int .i64 x.f0], [.int .i64 x.f1, .int .i64 x.f2], rfl, rfl, ⟨[.int .i64 x.f1], [.int .i64 x.f2], rfl, rfl, rfl⟩⟩
def rd_T46 (xs : List S46) (i : Int) : S46 := xs.getD i.toNat z46
theorem at_T46 {w : World} {A : Option Addr} {n : Nat} {xs : List S46} (h : Kd.C k46 w A n xs) (i : Int) (h0 : 0 ≤ i) (h1 : i < n) : ∃ ad , A = some ad ∧ w.cell? (ad.add (i.toNat * 3)) = some (.int .i64 (rd_T46 xs i).f0) ∧ w.cell? ⟨(ad.add (i.toNat * 3)).block, (ad.add (i.toNat * 3)).off + 1, none⟩ = some (.int .i64 (rd_T46 xs i).f1) ∧ w.cell? ⟨(ad.add (i.toNat * 3)).block, (ad.add (i.toNat * 3)).off + 2, none⟩ = some (.int .i64 (rd_T46 xs i).f2) := by
  obtain ⟨ad, c, e, _, hK, hc0⟩ := Kd.C_get h z46 i h0 h1
  have hc : ∀ j u, c[j]? = some u → w.cell? (ad.add (i.toNat * 3 + j)) = some u := hc0
  obtain rfl := k46_open hK
  exact ⟨ad, e, hc 0 _ rfl, by rw [← add_field _ _ 1 (by omega)]; exact hc 1 _ rfl, by rw [← add_field _ _ 2 (by omega)]; exact hc 2 _ rfl⟩

def ok45 (y_ : S45) : Prop := (fun n_ => (Lit.int .i64 n_).wf = true) y_.f0 ∧ (fun n_ => (Lit.int .i64 n_).wf = true) y_.f1 ∧ (fun ys_ => ys_.length ≤ maxLen ∧ ∀ y_ ∈ ys_, (fun n_ => (Lit.int .i64 n_).wf = true) y_) y_.f2
theorem opens45 : Opens Try.prog k45 45 ok45 := by
  intro H enc W base spare held fuel cs x h
  obtain ⟨xs, n, _, _, hl, hxl, hf⟩ := DataW.trod_struct Try.underlying45 h
  rw [show Try.prog.cellsOf 45 = 3 from by kernel_rfl] at hl
  obtain ⟨y0, a0, b0⟩ := (opens_int Try.underlying3) H enc W base spare held n _ _ ((hf 0 _ rfl).trans (List.getElem?_eq_getElem (by rw [hxl]; decide)))
  replace a0 : (Kd.int .i64).K W y0 ((cs.drop (0)).take (Try.prog.cellsOf 3)) := a0
  rw [show Try.prog.cellsOf 3 = 1 from by kernel_rfl] at a0
  obtain ⟨y1, a1, b1⟩ := (opens_int Try.underlying3) H enc W base spare held n _ _ ((hf 1 _ rfl).trans (List.getElem?_eq_getElem (by rw [hxl]; decide)))
  replace a1 : (Kd.int .i64).K W y1 ((cs.drop (1)).take (Try.prog.cellsOf 3)) := a1
  rw [show Try.prog.cellsOf 3 = 1 from by kernel_rfl] at a1
  obtain ⟨y2, a2, b2⟩ := (opens_slice Try.underlying36 (by kernel_rfl) (opens_int Try.underlying3)) H enc W base spare held n _ _ ((hf 2 _ rfl).trans (List.getElem?_eq_getElem (by rw [hxl]; decide)))
  replace a2 : (Kd.slice 3 (Kd.int .i64)).K W y2 ((cs.drop (2)).take (Try.prog.cellsOf 36)) := a2
  rw [show Try.prog.cellsOf 36 = 1 from by kernel_rfl] at a2
  refine ⟨⟨y0, y1, y2⟩, ?_, b0, b1, b2⟩
  have z := (opens_pair a0 rfl (opens_pair a1 rfl (opens_last a2 hl rfl)))
  rw [List.drop_zero] at z
  exact z
def ok46 (y_ : S46) : Prop := (fun n_ => (Lit.int .i64 n_).wf = true) y_.f0 ∧ (fun n_ => (Lit.int .i64 n_).wf = true) y_.f1 ∧ (fun n_ => (Lit.int .i64 n_).wf = true) y_.f2
theorem opens46 : Opens Try.prog k46 46 ok46 := by
  intro H enc W base spare held fuel cs x h
  obtain ⟨xs, n, _, _, hl, hxl, hf⟩ := DataW.trod_array Try.underlying46 h
  rw [show Try.prog.cellsOf 46 = 3 from by kernel_rfl] at hl
  obtain ⟨y0, a0, b0⟩ := (opens_int Try.underlying3) H enc W base spare held n _ _ ((hf 0 (by decide)).trans (List.getElem?_eq_getElem (by rw [hxl]; decide)))
  replace a0 : (Kd.int .i64).K W y0 ((cs.drop (0 * Try.prog.cellsOf 3)).take (Try.prog.cellsOf 3)) := a0
  rw [show Try.prog.cellsOf 3 = 1 from by kernel_rfl] at a0
  rw [show 0 * 1 = 0 from rfl] at a0
  obtain ⟨y1, a1, b1⟩ := (opens_int Try.underlying3) H enc W base spare held n _ _ ((hf 1 (by decide)).trans (List.getElem?_eq_getElem (by rw [hxl]; decide)))
  replace a1 : (Kd.int .i64).K W y1 ((cs.drop (1 * Try.prog.cellsOf 3)).take (Try.prog.cellsOf 3)) := a1
  rw [show Try.prog.cellsOf 3 = 1 from by kernel_rfl] at a1
  rw [show 1 * 1 = 1 from rfl] at a1
  obtain ⟨y2, a2, b2⟩ := (opens_int Try.underlying3) H enc W base spare held n _ _ ((hf 2 (by decide)).trans (List.getElem?_eq_getElem (by rw [hxl]; decide)))
  replace a2 : (Kd.int .i64).K W y2 ((cs.drop (2 * Try.prog.cellsOf 3)).take (Try.prog.cellsOf 3)) := a2
  rw [show Try.prog.cellsOf 3 = 1 from by kernel_rfl] at a2
  rw [show 2 * 1 = 2 from rfl] at a2
  refine ⟨⟨y0, y1, y2⟩, ?_, b0, b1, b2⟩
  have z := (opens_pair a0 rfl (opens_pair a1 rfl (opens_last a2 hl rfl)))
  rw [List.drop_zero] at z
  exact z
end Go.Proofs.Ytckjliikaocifab.GBeat
