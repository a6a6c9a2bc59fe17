/- What comes in, by its types. -/
import Derived.Test.YtleeafkkgepblaaTPB
import Derived.Test.YtleeafkkgepblaaLiftR
set_option linter.all false
set_option maxRecDepth 100000
namespace Go.Proofs.Ytleeafkkgepblaa.TPB
open Go Go.RowKit Go.Proofs.Ytleeafkkgepblaa.Lift Go.Proofs.Ytleeafkkgepblaa
structure Y23 where
  f0 : Int
  f1 : Int
  f2 : Int
  f3 : Int
  f4 : Int
  f5 : Int
  f6 : ByteArray
def ey23 (y : Y23) : List AV := (eInt .i64) y.f0 ++ ((eInt .i64) y.f1 ++ ((eInt .i64) y.f2 ++ ((eInt .i64) y.f3 ++ ((eInt .i64) y.f4 ++ ((eInt .i64) y.f5 ++ (eStr y.f6))))))
def oky23 (y : Y23) : Prop := (okInt .i64) y.f0 ∧ (okInt .i64) y.f1 ∧ (okInt .i64) y.f2 ∧ (okInt .i64) y.f3 ∧ (okInt .i64) y.f4 ∧ (okInt .i64) y.f5 ∧ okStr y.f6
theorem opy23 : Opens Try.prog 23 7 ey23 oky23 := by
  intro H enc W base spare held fuel cs x h
  obtain ⟨xs, n, _, _, hl, hxl, hf⟩ := DataW.trod_struct Try.underlying23 h
  rw [show Try.prog.cellsOf 23 = 7 from by kernel_rfl] at hl
  obtain ⟨y0, b0, l0, a0⟩ := (opens_int Try.underlying3) H enc W base spare held n _ _ ((hf 0 _ rfl).trans (List.getElem?_eq_getElem (by rw [hxl]; decide)))
  replace a0 : RepC W (fun _ => False) mu0 ((eInt .i64) y0) ((cs.drop (0)).take (Try.prog.cellsOf 3)).toArray := a0
  rw [show Try.prog.cellsOf 3 = 1 from by kernel_rfl] at a0
  obtain ⟨y1, b1, l1, a1⟩ := (opens_int Try.underlying3) H enc W base spare held n _ _ ((hf 1 _ rfl).trans (List.getElem?_eq_getElem (by rw [hxl]; decide)))
  replace a1 : RepC W (fun _ => False) mu0 ((eInt .i64) y1) ((cs.drop (1)).take (Try.prog.cellsOf 3)).toArray := a1
  rw [show Try.prog.cellsOf 3 = 1 from by kernel_rfl] at a1
  obtain ⟨y2, b2, l2, a2⟩ := (opens_int Try.underlying3) H enc W base spare held n _ _ ((hf 2 _ rfl).trans (List.getElem?_eq_getElem (by rw [hxl]; decide)))
  replace a2 : RepC W (fun _ => False) mu0 ((eInt .i64) y2) ((cs.drop (2)).take (Try.prog.cellsOf 3)).toArray := a2
  rw [show Try.prog.cellsOf 3 = 1 from by kernel_rfl] at a2
  obtain ⟨y3, b3, l3, a3⟩ := (opens_int Try.underlying3) H enc W base spare held n _ _ ((hf 3 _ rfl).trans (List.getElem?_eq_getElem (by rw [hxl]; decide)))
  replace a3 : RepC W (fun _ => False) mu0 ((eInt .i64) y3) ((cs.drop (3)).take (Try.prog.cellsOf 3)).toArray := a3
  rw [show Try.prog.cellsOf 3 = 1 from by kernel_rfl] at a3
  obtain ⟨y4, b4, l4, a4⟩ := (opens_int Try.underlying3) H enc W base spare held n _ _ ((hf 4 _ rfl).trans (List.getElem?_eq_getElem (by rw [hxl]; decide)))
  replace a4 : RepC W (fun _ => False) mu0 ((eInt .i64) y4) ((cs.drop (4)).take (Try.prog.cellsOf 3)).toArray := a4
  rw [show Try.prog.cellsOf 3 = 1 from by kernel_rfl] at a4
  obtain ⟨y5, b5, l5, a5⟩ := (opens_int Try.underlying3) H enc W base spare held n _ _ ((hf 5 _ rfl).trans (List.getElem?_eq_getElem (by rw [hxl]; decide)))
  replace a5 : RepC W (fun _ => False) mu0 ((eInt .i64) y5) ((cs.drop (5)).take (Try.prog.cellsOf 3)).toArray := a5
  rw [show Try.prog.cellsOf 3 = 1 from by kernel_rfl] at a5
  obtain ⟨y6, b6, l6, a6⟩ := (opens_str Try.underlying9) H enc W base spare held n _ _ ((hf 6 _ rfl).trans (List.getElem?_eq_getElem (by rw [hxl]; decide)))
  replace a6 : RepC W (fun _ => False) mu0 (eStr y6) ((cs.drop (6)).take (Try.prog.cellsOf 9)).toArray := a6
  rw [show Try.prog.cellsOf 9 = 1 from by kernel_rfl] at a6
  have z := (joinC a0 l0 rfl (joinC a1 l1 rfl (joinC a2 l2 rfl (joinC a3 l3 rfl (joinC a4 l4 rfl (joinC a5 l5 rfl (lastC a6 hl rfl)))))))
  rw [List.drop_zero] at z
  exact ⟨⟨y0, y1, y2, y3, y4, y5, y6⟩, ⟨b0, b1, b2, b3, b4, b5, b6⟩, by simp only [ey23, List.length_append, l0, l1, l2, l3, l4, l5, l6], z⟩
structure Y25 where
  f0 : Int
  f1 : Int
def ey25 (y : Y25) : List AV := (eInt .u32) y.f0 ++ ((eInt .u32) y.f1)
def oky25 (y : Y25) : Prop := (okInt .u32) y.f0 ∧ (okInt .u32) y.f1
theorem opy25 : Opens Try.prog 25 2 ey25 oky25 := by
  intro H enc W base spare held fuel cs x h
  obtain ⟨xs, n, _, _, hl, hxl, hf⟩ := DataW.trod_array Try.underlying25 h
  rw [show Try.prog.cellsOf 25 = 2 from by kernel_rfl] at hl
  obtain ⟨y0, b0, l0, a0⟩ := (opens_int Try.underlying24) H enc W base spare held n _ _ ((hf 0 (by decide)).trans (List.getElem?_eq_getElem (by rw [hxl]; decide)))
  replace a0 : RepC W (fun _ => False) mu0 ((eInt .u32) y0) ((cs.drop (0 * Try.prog.cellsOf 24)).take (Try.prog.cellsOf 24)).toArray := a0
  rw [show Try.prog.cellsOf 24 = 1 from by kernel_rfl] at a0
  rw [show 0 * 1 = 0 from rfl] at a0
  obtain ⟨y1, b1, l1, a1⟩ := (opens_int Try.underlying24) H enc W base spare held n _ _ ((hf 1 (by decide)).trans (List.getElem?_eq_getElem (by rw [hxl]; decide)))
  replace a1 : RepC W (fun _ => False) mu0 ((eInt .u32) y1) ((cs.drop (1 * Try.prog.cellsOf 24)).take (Try.prog.cellsOf 24)).toArray := a1
  rw [show Try.prog.cellsOf 24 = 1 from by kernel_rfl] at a1
  rw [show 1 * 1 = 1 from rfl] at a1
  have z := (joinC a0 l0 rfl (lastC a1 hl rfl))
  rw [List.drop_zero] at z
  exact ⟨⟨y0, y1⟩, ⟨b0, b1⟩, by simp only [ey25, List.length_append, l0, l1], z⟩
end Go.Proofs.Ytleeafkkgepblaa.TPB
