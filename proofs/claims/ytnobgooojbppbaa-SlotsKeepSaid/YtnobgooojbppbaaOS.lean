/- What comes in, by its types. -/
import Derived.Test.YtnobgooojbppbaaTS
import Derived.Test.YtnobgooojbppbaaLiftR
set_option linter.all false
set_option maxRecDepth 100000
namespace Go.Proofs.Ytnobgooojbppbaa.TS
open Go Go.RowKit Go.Proofs.Ytnobgooojbppbaa.Lift Go.Proofs.Ytnobgooojbppbaa
structure Y80 where
  f0 : Int
  f1 : Int
def ey80 (y : Y80) : List AV := (eInt .i64) y.f0 ++ ((eInt .i64) y.f1)
def oky80 (y : Y80) : Prop := (okInt .i64) y.f0 ∧ (okInt .i64) y.f1
theorem opy80 : Opens Try.prog 80 2 ey80 oky80 := by
  intro H enc W base spare held fuel cs x h
  obtain ⟨xs, n, _, _, hl, hxl, hf⟩ := DataW.trod_struct Try.underlying80 h
  rw [show Try.prog.cellsOf 80 = 2 from by kernel_rfl] at hl
  obtain ⟨y0, b0, l0, a0⟩ := (opens_int Try.underlying3) H enc W base spare held n _ _ ((hf 0 _ rfl).trans (List.getElem?_eq_getElem (by rw [hxl]; decide)))
  replace a0 : RepC W (fun _ => False) mu0 ((eInt .i64) y0) ((cs.drop (0)).take (Try.prog.cellsOf 3)).toArray := a0
  rw [show Try.prog.cellsOf 3 = 1 from by kernel_rfl] at a0
  obtain ⟨y1, b1, l1, a1⟩ := (opens_int Try.underlying3) H enc W base spare held n _ _ ((hf 1 _ rfl).trans (List.getElem?_eq_getElem (by rw [hxl]; decide)))
  replace a1 : RepC W (fun _ => False) mu0 ((eInt .i64) y1) ((cs.drop (1)).take (Try.prog.cellsOf 3)).toArray := a1
  rw [show Try.prog.cellsOf 3 = 1 from by kernel_rfl] at a1
  have z := (joinC a0 l0 rfl (lastC a1 hl rfl))
  rw [List.drop_zero] at z
  exact ⟨⟨y0, y1⟩, ⟨b0, b1⟩, by simp only [ey80, List.length_append, l0, l1], z⟩
structure Y134 where
  f0 : Int
  f1 : Int
def ey134 (y : Y134) : List AV := (eInt .i64) y.f0 ++ ((eInt .i64) y.f1)
def oky134 (y : Y134) : Prop := (okInt .i64) y.f0 ∧ (okInt .i64) y.f1
theorem opy134 : Opens Try.prog 134 2 ey134 oky134 := by
  intro H enc W base spare held fuel cs x h
  obtain ⟨xs, n, _, _, hl, hxl, hf⟩ := DataW.trod_struct Try.underlying134 h
  rw [show Try.prog.cellsOf 134 = 2 from by kernel_rfl] at hl
  obtain ⟨y0, b0, l0, a0⟩ := (opens_int Try.underlying3) H enc W base spare held n _ _ ((hf 0 _ rfl).trans (List.getElem?_eq_getElem (by rw [hxl]; decide)))
  replace a0 : RepC W (fun _ => False) mu0 ((eInt .i64) y0) ((cs.drop (0)).take (Try.prog.cellsOf 3)).toArray := a0
  rw [show Try.prog.cellsOf 3 = 1 from by kernel_rfl] at a0
  obtain ⟨y1, b1, l1, a1⟩ := (opens_int Try.underlying3) H enc W base spare held n _ _ ((hf 1 _ rfl).trans (List.getElem?_eq_getElem (by rw [hxl]; decide)))
  replace a1 : RepC W (fun _ => False) mu0 ((eInt .i64) y1) ((cs.drop (1)).take (Try.prog.cellsOf 3)).toArray := a1
  rw [show Try.prog.cellsOf 3 = 1 from by kernel_rfl] at a1
  have z := (joinC a0 l0 rfl (lastC a1 hl rfl))
  rw [List.drop_zero] at z
  exact ⟨⟨y0, y1⟩, ⟨b0, b1⟩, by simp only [ey134, List.length_append, l0, l1], z⟩
structure Y128 where
  f0 : Int
  f1 : (List Y80)
  f2 : (List Y134)
  f3 : (List Y134)
def ey128 (y : Y128) : List AV := (eInt .i64) y.f0 ++ ((eSl 2 ey80) y.f1 ++ ((eSl 2 ey134) y.f2 ++ ((eSl 2 ey134) y.f3)))
def oky128 (y : Y128) : Prop := (okInt .i64) y.f0 ∧ (okSl oky80) y.f1 ∧ (okSl oky134) y.f2 ∧ (okSl oky134) y.f3
theorem opy128 : Opens Try.prog 128 4 ey128 oky128 := by
  intro H enc W base spare held fuel cs x h
  obtain ⟨xs, n, _, _, hl, hxl, hf⟩ := DataW.trod_struct Try.underlying128 h
  rw [show Try.prog.cellsOf 128 = 4 from by kernel_rfl] at hl
  obtain ⟨y0, b0, l0, a0⟩ := (opens_int Try.underlying3) H enc W base spare held n _ _ ((hf 0 _ rfl).trans (List.getElem?_eq_getElem (by rw [hxl]; decide)))
  replace a0 : RepC W (fun _ => False) mu0 ((eInt .i64) y0) ((cs.drop (0)).take (Try.prog.cellsOf 3)).toArray := a0
  rw [show Try.prog.cellsOf 3 = 1 from by kernel_rfl] at a0
  obtain ⟨y1, b1, l1, a1⟩ := (opens_sl Try.underlying76 (by kernel_rfl) (by decide) opy80) H enc W base spare held n _ _ ((hf 1 _ rfl).trans (List.getElem?_eq_getElem (by rw [hxl]; decide)))
  replace a1 : RepC W (fun _ => False) mu0 ((eSl 2 ey80) y1) ((cs.drop (1)).take (Try.prog.cellsOf 76)).toArray := a1
  rw [show Try.prog.cellsOf 76 = 1 from by kernel_rfl] at a1
  obtain ⟨y2, b2, l2, a2⟩ := (opens_sl Try.underlying126 (by kernel_rfl) (by decide) opy134) H enc W base spare held n _ _ ((hf 2 _ rfl).trans (List.getElem?_eq_getElem (by rw [hxl]; decide)))
  replace a2 : RepC W (fun _ => False) mu0 ((eSl 2 ey134) y2) ((cs.drop (2)).take (Try.prog.cellsOf 126)).toArray := a2
  rw [show Try.prog.cellsOf 126 = 1 from by kernel_rfl] at a2
  obtain ⟨y3, b3, l3, a3⟩ := (opens_sl Try.underlying126 (by kernel_rfl) (by decide) opy134) H enc W base spare held n _ _ ((hf 3 _ rfl).trans (List.getElem?_eq_getElem (by rw [hxl]; decide)))
  replace a3 : RepC W (fun _ => False) mu0 ((eSl 2 ey134) y3) ((cs.drop (3)).take (Try.prog.cellsOf 126)).toArray := a3
  rw [show Try.prog.cellsOf 126 = 1 from by kernel_rfl] at a3
  have z := (joinC a0 l0 rfl (joinC a1 l1 rfl (joinC a2 l2 rfl (lastC a3 hl rfl))))
  rw [List.drop_zero] at z
  exact ⟨⟨y0, y1, y2, y3⟩, ⟨b0, b1, b2, b3⟩, by simp only [ey128, List.length_append, l0, l1, l2, l3], z⟩
structure Y129 where
  f0 : Int
  f1 : Int
def ey129 (y : Y129) : List AV := (eInt .i64) y.f0 ++ ((eInt .i64) y.f1)
def oky129 (y : Y129) : Prop := (okInt .i64) y.f0 ∧ (okInt .i64) y.f1
theorem opy129 : Opens Try.prog 129 2 ey129 oky129 := by
  intro H enc W base spare held fuel cs x h
  obtain ⟨xs, n, _, _, hl, hxl, hf⟩ := DataW.trod_array Try.underlying129 h
  rw [show Try.prog.cellsOf 129 = 2 from by kernel_rfl] at hl
  obtain ⟨y0, b0, l0, a0⟩ := (opens_int Try.underlying3) H enc W base spare held n _ _ ((hf 0 (by decide)).trans (List.getElem?_eq_getElem (by rw [hxl]; decide)))
  replace a0 : RepC W (fun _ => False) mu0 ((eInt .i64) y0) ((cs.drop (0 * Try.prog.cellsOf 3)).take (Try.prog.cellsOf 3)).toArray := a0
  rw [show Try.prog.cellsOf 3 = 1 from by kernel_rfl] at a0
  rw [show 0 * 1 = 0 from rfl] at a0
  obtain ⟨y1, b1, l1, a1⟩ := (opens_int Try.underlying3) H enc W base spare held n _ _ ((hf 1 (by decide)).trans (List.getElem?_eq_getElem (by rw [hxl]; decide)))
  replace a1 : RepC W (fun _ => False) mu0 ((eInt .i64) y1) ((cs.drop (1 * Try.prog.cellsOf 3)).take (Try.prog.cellsOf 3)).toArray := a1
  rw [show Try.prog.cellsOf 3 = 1 from by kernel_rfl] at a1
  rw [show 1 * 1 = 1 from rfl] at a1
  have z := (joinC a0 l0 rfl (lastC a1 hl rfl))
  rw [List.drop_zero] at z
  exact ⟨⟨y0, y1⟩, ⟨b0, b1⟩, by simp only [ey129, List.length_append, l0, l1], z⟩
structure Y25 where
  f0 : Int
  f1 : Int
  f2 : Int
def ey25 (y : Y25) : List AV := (eInt .i64) y.f0 ++ ((eInt .i64) y.f1 ++ ((eInt .i64) y.f2))
def oky25 (y : Y25) : Prop := (okInt .i64) y.f0 ∧ (okInt .i64) y.f1 ∧ (okInt .i64) y.f2
theorem opy25 : Opens Try.prog 25 3 ey25 oky25 := by
  intro H enc W base spare held fuel cs x h
  obtain ⟨xs, n, _, _, hl, hxl, hf⟩ := DataW.trod_array Try.underlying25 h
  rw [show Try.prog.cellsOf 25 = 3 from by kernel_rfl] at hl
  obtain ⟨y0, b0, l0, a0⟩ := (opens_int Try.underlying3) H enc W base spare held n _ _ ((hf 0 (by decide)).trans (List.getElem?_eq_getElem (by rw [hxl]; decide)))
  replace a0 : RepC W (fun _ => False) mu0 ((eInt .i64) y0) ((cs.drop (0 * Try.prog.cellsOf 3)).take (Try.prog.cellsOf 3)).toArray := a0
  rw [show Try.prog.cellsOf 3 = 1 from by kernel_rfl] at a0
  rw [show 0 * 1 = 0 from rfl] at a0
  obtain ⟨y1, b1, l1, a1⟩ := (opens_int Try.underlying3) H enc W base spare held n _ _ ((hf 1 (by decide)).trans (List.getElem?_eq_getElem (by rw [hxl]; decide)))
  replace a1 : RepC W (fun _ => False) mu0 ((eInt .i64) y1) ((cs.drop (1 * Try.prog.cellsOf 3)).take (Try.prog.cellsOf 3)).toArray := a1
  rw [show Try.prog.cellsOf 3 = 1 from by kernel_rfl] at a1
  rw [show 1 * 1 = 1 from rfl] at a1
  obtain ⟨y2, b2, l2, a2⟩ := (opens_int Try.underlying3) H enc W base spare held n _ _ ((hf 2 (by decide)).trans (List.getElem?_eq_getElem (by rw [hxl]; decide)))
  replace a2 : RepC W (fun _ => False) mu0 ((eInt .i64) y2) ((cs.drop (2 * Try.prog.cellsOf 3)).take (Try.prog.cellsOf 3)).toArray := a2
  rw [show Try.prog.cellsOf 3 = 1 from by kernel_rfl] at a2
  rw [show 2 * 1 = 2 from rfl] at a2
  have z := (joinC a0 l0 rfl (joinC a1 l1 rfl (lastC a2 hl rfl)))
  rw [List.drop_zero] at z
  exact ⟨⟨y0, y1, y2⟩, ⟨b0, b1, b2⟩, by simp only [ey25, List.length_append, l0, l1, l2], z⟩
end Go.Proofs.Ytnobgooojbppbaa.TS
