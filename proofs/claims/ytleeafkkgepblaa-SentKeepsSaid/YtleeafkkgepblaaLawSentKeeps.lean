/- The law of the program that the row names: its call yields true, whatever comes in. -/
import Derived.Test.YtleeafkkgepblaaRows
import Derived.Test.YtleeafkkgepblaaPureSentKeeps
import Derived.WalkKit
import Derived.ProofKit
import Derived.OpenShut
import Derived.ShutString
import Derived.ChangeOld
import Derived.Below
import Derived.SizedLaws
import Derived.Carry
namespace Go.Proofs.Ytleeafkkgepblaa.sentKeeps
open Go.ChangeShapes Go.WideShapes Go.ChangeAt Go.RowKit Go.Proofs.Ytleeafkkgepblaa.Lift Go.Proofs.Ytleeafkkgepblaa.TSK
open Go.ChangeMaps (open_string shut_string)
set_option linter.all false
theorem own : ownKnob Try.prog.godebug = none := by kernel_rfl
theorem laidOut : laidOutB Try.prog = true := by kernel_rfl
set_option maxRecDepth 100000 in
theorem lifted (os : Os) (started : os.Started) (H : Type) (enc : TypeId × Value → H) :
    ReturnsInHanded {} Try.checked os 4 .any (Rows.sentKeepsSpec.pre6 enc Try.prog Try.f4 Rows.sentKeepsRow.domain false) (Rows.sentKeepsSpec.post enc Try.prog Try.f4 false true false false) := by
  refine returnsInHanded_of_change_sized (C := Try.checked) own started (by kernel_rfl) Try.func4
    (ChangeSpec.witness6 (enc := enc) (C := Try.checked) false ⟨#[], #[.int .u8 0, .slice none 0 0], []⟩ 8 (by kernel_rfl) (by kernel_rfl) (by kernel_rfl) (by kernel_rfl)) ?_
  intro W base args ds gs before hval0 hW hcnd hsz0 _
  have hval : ∀ (j : Nat) t v, Try.f4.params[j]? = some t → args[j]? = some v → Value.okWide Try.prog W .any base t v := hval0
  have hW' := hW
  obtain ⟨p, q, hA0, hV, rfl, hfz, hnd⟩ := hW
  have hA : DataW.TrodAll enc Try.prog W 0 (fun _ => true) true Try.f4.params.toList args.toList ds p := hA0
  rw [Try.params4] at hA hval
  obtain ⟨v0, vs0, d0, ds0, p0, q0, hargs, rfl, rfl, h0, r0⟩ := trodAll_cons hA
  obtain ⟨v1, vs1, d1, ds1, p1, q1, rfl, rfl, rfl, h1, r1⟩ := trodAll_cons r0
  obtain ⟨rfl, rfl, rfl⟩ := trodAll_nil r1
  obtain rfl : args = #[v0, v1] := by cases args; simp_all
  obtain ⟨rfl, rfl⟩ := trodVars_none hV
  have k0 := h0
  have lt0 : ∀ x ∈ p0, x.block < W.heap.size := by obtain ⟨m, hm⟩ := k0; exact DataW.trod_lt m _ _ _ hm
  obtain ⟨y0, o0, g0, c0⟩ : ∃ y, (okInt .u8) y ∧ ((eInt .u8) y).length = 1 ∧ RepC W (fun _ => False) mu0 ((eInt .u8) y) v0.cells.toList.toArray := by
    obtain ⟨fuel, hf⟩ := h0
    exact (opens_int Try.underlying5) H enc W _ _ _ _ _ _ hf
  obtain ⟨u0, hu0, _, e0'⟩ := c0.2 0 _ rfl
  have e0 : Rep W (fun _ => False) mu0 (.int .u8 y0) v0 := by
    have hs : v0.cells = #[v0] := by
      obtain ⟨_, rfl, _⟩ := open_int Try.underlying5 (hval 0 5 v0 rfl rfl) h0
      rfl
    rw [hs] at hu0
    obtain rfl : v0 = u0 := by simpa using hu0
    exact e0'
  have k1 := h1
  have lt1 : ∀ x ∈ p1, x.block < W.heap.size := by obtain ⟨m, hm⟩ := k1; exact DataW.trod_lt m _ _ _ hm
  obtain ⟨y1, o1, g1, c1⟩ : ∃ y, (okSl oky45) y ∧ ((eSl 4 ey45) y).length = 1 ∧ RepC W (fun _ => False) mu0 ((eSl 4 ey45) y) v1.cells.toList.toArray := by
    obtain ⟨fuel, hf⟩ := h1
    exact (opens_sl Try.underlying37 (by kernel_rfl) (by decide) opy45) H enc W _ _ _ _ _ _ hf
  obtain ⟨u1, hu1, _, e1'⟩ := c1.2 0 _ rfl
  have e1 : Rep W (fun _ => False) mu0 (.ro 4 (y1.map ey45) false) v1 := by
    have hs : v1.cells = #[v1] := by
      obtain ⟨_, _, _, rfl⟩ := okWide_slice Try.underlying37 (hval 1 37 v1 rfl rfl)
      rfl
    rw [hs] at hu1
    obtain rfl : v1 = u1 := by simpa using hu1
    exact e1'
  clear hA0 hval0 hsz0
  have hrun := F_sound (P := Try.prog) Try.checked.mixed tok (Pure.SentKeeps y0 y1 o0 o1) (w := W) (vs := #[v0, v1]) rfl (fun j c v hc hv => by
    cases j with
    | zero => cases hc; cases hv; exact e0
    | succ j =>
      cases j with
      | zero => cases hc; cases hv; exact e1
      | succ j =>
        simp at hc)
  refine hrun.mono fun e W' he' => ?_
  obtain ⟨v, X', μ', rfl, hr, bel⟩ := he'
  obtain rfl := rep_bool hr rfl
  exact ⟨_, rfl, _, _, _, [], _, [], hW', trodAll_mk1 (shut_bool Try.underlying4 _), (trodAll_cons_mk (Below.trod laidOut (by kernel_rfl) (of_decide_eq_true (by kernel_rfl)) k0 bel lt0) (trodAll_cons_mk (Below.trod laidOut (by kernel_rfl) (of_decide_eq_true (by kernel_rfl)) k1 bel lt1) trodAll_mk0)), rfl, bel.frame _, fun h => by cases h⟩
theorem over : Rows.sentKeepsRow.holds Try.pinned (OpenSpec.ofChange Rows.sentKeepsSpec) :=
  OpenClaim.holds_of_wide 4 Try.f4 rfl rfl rfl rfl rfl rfl rfl ⟨rfl, rfl, rfl, rfl, rfl⟩ rfl rfl rfl rfl rfl (by kernel_rfl) Try.func4 (by kernel_rfl)
    (of_decide_eq_true (by kernel_rfl)) (by unfold Func.isWrapper; first | (rw [if_pos (by decide +kernel)]; kernel_rfl) | (rw [if_neg (by decide +kernel)]; exact ⟨rfl, rfl⟩))
    (fun os started H enc _ => lifted os started H enc)
theorem proved : Rows.SentKeepsSaid := over
end Go.Proofs.Ytleeafkkgepblaa.sentKeeps
namespace Go.Proofs.Ytleeafkkgepblaa
theorem sentKeeps_holds : Rows.SentKeepsSaid := sentKeeps.proved
end Go.Proofs.Ytleeafkkgepblaa
