/- What comes in, by its types. -/
import Derived.Test.YtjpccbjgmogclaaTLK
import Derived.Test.YtjpccbjgmogclaaLiftR
set_option linter.all false
set_option maxRecDepth 100000
namespace Go.Proofs.Ytjpccbjgmogclaa.TLK
open Go Go.RowKit Go.Proofs.Ytjpccbjgmogclaa.Lift Go.Proofs.Ytjpccbjgmogclaa
structure Y27 where
  f0 : Int
  f1 : Int
def ey27 (y : Y27) : List AV := (eInt .i64) y.f0 ++ ((eInt .i64) y.f1)
def oky27 (y : Y27) : Prop := (okInt .i64) y.f0 ∧ (okInt .i64) y.f1
theorem opy27 : Opens Try.prog 27 2 ey27 oky27 := by
  intro H enc W base spare held fuel cs x h
  obtain ⟨xs, n, _, _, hl, hxl, hf⟩ := DataW.trod_struct Try.underlying27 h
  rw [show Try.prog.cellsOf 27 = 2 from by kernel_rfl] at hl
  obtain ⟨y0, b0, l0, a0⟩ := (opens_int Try.underlying3) H enc W base spare held n _ _ ((hf 0 _ rfl).trans (List.getElem?_eq_getElem (by rw [hxl]; decide)))
  replace a0 : RepC W (fun _ => False) mu0 ((eInt .i64) y0) ((cs.drop (0)).take (Try.prog.cellsOf 3)).toArray := a0
  rw [show Try.prog.cellsOf 3 = 1 from by kernel_rfl] at a0
  obtain ⟨y1, b1, l1, a1⟩ := (opens_int Try.underlying3) H enc W base spare held n _ _ ((hf 1 _ rfl).trans (List.getElem?_eq_getElem (by rw [hxl]; decide)))
  replace a1 : RepC W (fun _ => False) mu0 ((eInt .i64) y1) ((cs.drop (1)).take (Try.prog.cellsOf 3)).toArray := a1
  rw [show Try.prog.cellsOf 3 = 1 from by kernel_rfl] at a1
  have z := (joinC a0 l0 rfl (lastC a1 hl rfl))
  rw [List.drop_zero] at z
  exact ⟨⟨y0, y1⟩, ⟨b0, b1⟩, by simp only [ey27, List.length_append, l0, l1], z⟩
end Go.Proofs.Ytjpccbjgmogclaa.TLK
