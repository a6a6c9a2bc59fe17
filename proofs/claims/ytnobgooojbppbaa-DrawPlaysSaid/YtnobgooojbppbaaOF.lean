/- What comes in, by its types. -/
import Derived.Test.YtnobgooojbppbaaTF
import Derived.Test.YtnobgooojbppbaaLiftR
set_option linter.all false
set_option maxRecDepth 100000
namespace Go.Proofs.Ytnobgooojbppbaa.TF
open Go Go.RowKit Go.Proofs.Ytnobgooojbppbaa.Lift Go.Proofs.Ytnobgooojbppbaa
structure Y62 where
  f0 : Int
  f1 : Int
  f2 : Int
def ey62 (y : Y62) : List AV := (eInt .i64) y.f0 ++ ((eInt .i64) y.f1 ++ ((eInt .u64) y.f2))
def oky62 (y : Y62) : Prop := (okInt .i64) y.f0 ∧ (okInt .i64) y.f1 ∧ (okInt .u64) y.f2
theorem opy62 : Opens Try.prog 62 3 ey62 oky62 := by
  intro H enc W base spare held fuel cs x h
  obtain ⟨xs, n, _, _, hl, hxl, hf⟩ := DataW.trod_struct Try.underlying62 h
  rw [show Try.prog.cellsOf 62 = 3 from by kernel_rfl] at hl
  obtain ⟨y0, b0, l0, a0⟩ := (opens_int Try.underlying3) H enc W base spare held n _ _ ((hf 0 _ rfl).trans (List.getElem?_eq_getElem (by rw [hxl]; decide)))
  replace a0 : RepC W (fun _ => False) mu0 ((eInt .i64) y0) ((cs.drop (0)).take (Try.prog.cellsOf 3)).toArray := a0
  rw [show Try.prog.cellsOf 3 = 1 from by kernel_rfl] at a0
  obtain ⟨y1, b1, l1, a1⟩ := (opens_int Try.underlying3) H enc W base spare held n _ _ ((hf 1 _ rfl).trans (List.getElem?_eq_getElem (by rw [hxl]; decide)))
  replace a1 : RepC W (fun _ => False) mu0 ((eInt .i64) y1) ((cs.drop (1)).take (Try.prog.cellsOf 3)).toArray := a1
  rw [show Try.prog.cellsOf 3 = 1 from by kernel_rfl] at a1
  obtain ⟨y2, b2, l2, a2⟩ := (opens_int Try.underlying41) H enc W base spare held n _ _ ((hf 2 _ rfl).trans (List.getElem?_eq_getElem (by rw [hxl]; decide)))
  replace a2 : RepC W (fun _ => False) mu0 ((eInt .u64) y2) ((cs.drop (2)).take (Try.prog.cellsOf 41)).toArray := a2
  rw [show Try.prog.cellsOf 41 = 1 from by kernel_rfl] at a2
  have z := (joinC a0 l0 rfl (joinC a1 l1 rfl (lastC a2 hl rfl)))
  rw [List.drop_zero] at z
  exact ⟨⟨y0, y1, y2⟩, ⟨b0, b1, b2⟩, by simp only [ey62, List.length_append, l0, l1, l2], z⟩
end Go.Proofs.Ytnobgooojbppbaa.TF
