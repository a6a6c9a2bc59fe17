/- What comes in, by its types. -/
import Derived.Test.YtleeafkkgepblaaTSK
import Derived.Test.YtleeafkkgepblaaLiftR
set_option linter.all false
set_option maxRecDepth 100000
namespace Go.Proofs.Ytleeafkkgepblaa.TSK
open Go Go.RowKit Go.Proofs.Ytleeafkkgepblaa.Lift Go.Proofs.Ytleeafkkgepblaa
structure Y45 where
  f0 : Int
  f1 : Int
  f2 : Int
  f3 : ByteArray
def ey45 (y : Y45) : List AV := (eInt .i64) y.f0 ++ ((eInt .i64) y.f1 ++ ((eInt .i64) y.f2 ++ (eStr y.f3)))
def oky45 (y : Y45) : Prop := (okInt .i64) y.f0 ∧ (okInt .i64) y.f1 ∧ (okInt .i64) y.f2 ∧ okStr y.f3
theorem opy45 : Opens Try.prog 45 4 ey45 oky45 := by
  intro H enc W base spare held fuel cs x h
  obtain ⟨xs, n, _, _, hl, hxl, hf⟩ := DataW.trod_struct Try.underlying45 h
  rw [show Try.prog.cellsOf 45 = 4 from by kernel_rfl] at hl
  obtain ⟨y0, b0, l0, a0⟩ := (opens_int Try.underlying3) H enc W base spare held n _ _ ((hf 0 _ rfl).trans (List.getElem?_eq_getElem (by rw [hxl]; decide)))
  replace a0 : RepC W (fun _ => False) mu0 ((eInt .i64) y0) ((cs.drop (0)).take (Try.prog.cellsOf 3)).toArray := a0
  rw [show Try.prog.cellsOf 3 = 1 from by kernel_rfl] at a0
  obtain ⟨y1, b1, l1, a1⟩ := (opens_int Try.underlying3) H enc W base spare held n _ _ ((hf 1 _ rfl).trans (List.getElem?_eq_getElem (by rw [hxl]; decide)))
  replace a1 : RepC W (fun _ => False) mu0 ((eInt .i64) y1) ((cs.drop (1)).take (Try.prog.cellsOf 3)).toArray := a1
  rw [show Try.prog.cellsOf 3 = 1 from by kernel_rfl] at a1
  obtain ⟨y2, b2, l2, a2⟩ := (opens_int Try.underlying3) H enc W base spare held n _ _ ((hf 2 _ rfl).trans (List.getElem?_eq_getElem (by rw [hxl]; decide)))
  replace a2 : RepC W (fun _ => False) mu0 ((eInt .i64) y2) ((cs.drop (2)).take (Try.prog.cellsOf 3)).toArray := a2
  rw [show Try.prog.cellsOf 3 = 1 from by kernel_rfl] at a2
  obtain ⟨y3, b3, l3, a3⟩ := (opens_str Try.underlying9) H enc W base spare held n _ _ ((hf 3 _ rfl).trans (List.getElem?_eq_getElem (by rw [hxl]; decide)))
  replace a3 : RepC W (fun _ => False) mu0 (eStr y3) ((cs.drop (3)).take (Try.prog.cellsOf 9)).toArray := a3
  rw [show Try.prog.cellsOf 9 = 1 from by kernel_rfl] at a3
  have z := (joinC a0 l0 rfl (joinC a1 l1 rfl (joinC a2 l2 rfl (lastC a3 hl rfl))))
  rw [List.drop_zero] at z
  exact ⟨⟨y0, y1, y2, y3⟩, ⟨b0, b1, b2, b3⟩, by simp only [ey45, List.length_append, l0, l1, l2, l3], z⟩
end Go.Proofs.Ytleeafkkgepblaa.TSK
