/- The law of the program that the row names: its call yields true, whatever comes in. -/
import Derived.Test.YtnobgooojbppbaaRows
import Derived.Test.YtnobgooojbppbaaPureSlotsDoes
import Derived.WalkKit
import Derived.ProofKit
import Derived.OpenShut
import Derived.ShutString
import Derived.ChangeOld
import Derived.Below
import Derived.SizedLaws
import Derived.Carry
namespace Go.Proofs.Ytnobgooojbppbaa.slotsDoes
open Go.ChangeShapes Go.WideShapes Go.ChangeAt Go.RowKit Go.Proofs.Ytnobgooojbppbaa.Lift Go.Proofs.Ytnobgooojbppbaa.TS
open Go.ChangeMaps (open_string shut_string)
set_option linter.all false
theorem own : ownKnob Try.prog.godebug = none := by kernel_rfl
theorem laidOut : laidOutB Try.prog = true := by kernel_rfl
set_option maxRecDepth 100000 in
theorem lifted (os : Os) (started : os.Started) (H : Type) (enc : TypeId × Value → H) :
    ReturnsInHanded {} Try.checked os 13 .any (Rows.slotsDoesSpec.pre6 enc Try.prog Try.f13 Rows.slotsDoesRow.domain false) (Rows.slotsDoesSpec.post enc Try.prog Try.f13 false true false false) := by
  refine returnsInHanded_of_change_sized (C := Try.checked) own started (by kernel_rfl) Try.func13
    (ChangeSpec.witness6 (enc := enc) (C := Try.checked) false ⟨#[], #[.agg #[.int .i64 0, .slice none 0 0, .slice none 0 0, .slice none 0 0], .agg #[.int .i64 0, .int .i64 0]], []⟩ 8 (by kernel_rfl) (by kernel_rfl) (by kernel_rfl) (by kernel_rfl)) ?_
  intro W base args ds gs before hval0 hW hcnd hsz0 _
  have hval : ∀ (j : Nat) t v, Try.f13.params[j]? = some t → args[j]? = some v → Value.okWide Try.prog W .any base t v := hval0
  have hW' := hW
  obtain ⟨p, q, hA0, hV, rfl, hfz, hnd⟩ := hW
  have hA : DataW.TrodAll enc Try.prog W 0 (fun _ => true) true Try.f13.params.toList args.toList ds p := hA0
  rw [Try.params13] at hA hval
  obtain ⟨v0, vs0, d0, ds0, p0, q0, hargs, rfl, rfl, h0, r0⟩ := trodAll_cons hA
  obtain ⟨v1, vs1, d1, ds1, p1, q1, rfl, rfl, rfl, h1, r1⟩ := trodAll_cons r0
  obtain ⟨rfl, rfl, rfl⟩ := trodAll_nil r1
  obtain rfl : args = #[v0, v1] := by cases args; simp_all
  obtain ⟨rfl, rfl⟩ := trodVars_none hV
  have k0 := h0
  have lt0 : ∀ x ∈ p0, x.block < W.heap.size := by obtain ⟨m, hm⟩ := k0; exact DataW.trod_lt m _ _ _ hm
  obtain ⟨y0, o0, g0, c0⟩ : ∃ y, oky128 y ∧ (ey128 y).length = 4 ∧ RepC W (fun _ => False) mu0 (ey128 y) v0.cells.toList.toArray := by
    obtain ⟨fuel, hf⟩ := h0
    exact opy128 H enc W _ _ _ _ _ _ hf
  obtain ⟨cs0, rfl, hz0⟩ := okWide_struct Try.underlying128 (hval 0 128 v0 rfl rfl)
  have e0 : Rep W (fun _ => False) mu0 (.agg (ey128 y0)) (.agg cs0) := rep_agg (by simpa [Value.cells] using c0)
  have k1 := h1
  have lt1 : ∀ x ∈ p1, x.block < W.heap.size := by obtain ⟨m, hm⟩ := k1; exact DataW.trod_lt m _ _ _ hm
  obtain ⟨y1, o1, g1, c1⟩ : ∃ y, oky129 y ∧ (ey129 y).length = 2 ∧ RepC W (fun _ => False) mu0 (ey129 y) v1.cells.toList.toArray := by
    obtain ⟨fuel, hf⟩ := h1
    exact opy129 H enc W _ _ _ _ _ _ hf
  obtain ⟨cs1, rfl, hz1⟩ := okWide_arr Try.underlying129 (hval 1 129 v1 rfl rfl)
  have e1 : Rep W (fun _ => False) mu0 (.agg (ey129 y1)) (.agg cs1) := rep_agg (by simpa [Value.cells] using c1)
  clear hA0 hval0 hsz0
  have hrun := F_sound (P := Try.prog) Try.checked.mixed tok (Pure.SlotsDoes y0 y1 o0 o1) (w := W) (vs := #[.agg cs0, .agg cs1]) rfl (fun j c v hc hv => by
    cases j with
    | zero => cases hc; cases hv; exact e0
    | succ j =>
      cases j with
      | zero => cases hc; cases hv; exact e1
      | succ j =>
        simp at hc)
  refine hrun.mono fun e W' he' => ?_
  obtain ⟨v, X', μ', rfl, hr, bel⟩ := he'
  obtain rfl := rep_bool hr rfl
  exact ⟨_, rfl, _, _, _, [], _, [], hW', trodAll_mk1 (shut_bool Try.underlying4 _), (trodAll_cons_mk (Below.trod laidOut (by kernel_rfl) (of_decide_eq_true (by kernel_rfl)) k0 bel lt0) (trodAll_cons_mk (Below.trod laidOut (by kernel_rfl) (of_decide_eq_true (by kernel_rfl)) k1 bel lt1) trodAll_mk0)), rfl, bel.frame _, fun h => by cases h⟩
theorem over : Rows.slotsDoesRow.holds Try.pinned (OpenSpec.ofChange Rows.slotsDoesSpec) :=
  OpenClaim.holds_of_wide 13 Try.f13 rfl rfl rfl rfl rfl rfl rfl ⟨rfl, rfl, rfl, rfl, rfl⟩ rfl rfl rfl rfl rfl (by kernel_rfl) Try.func13 (by kernel_rfl)
    (of_decide_eq_true (by kernel_rfl)) (by unfold Func.isWrapper; first | (rw [if_pos (by decide +kernel)]; kernel_rfl) | (rw [if_neg (by decide +kernel)]; exact ⟨rfl, rfl⟩))
    (fun os started H enc _ => lifted os started H enc)
theorem proved : Rows.SlotsDoesSaid := over
end Go.Proofs.Ytnobgooojbppbaa.slotsDoes
namespace Go.Proofs.Ytnobgooojbppbaa
theorem slotsDoes_holds : Rows.SlotsDoesSaid := slotsDoes.proved
end Go.Proofs.Ytnobgooojbppbaa
