/- The law of the program that the row names: its call yields true, whatever comes in. -/
import Derived.Test.YtjpccbjgmogclaaRows
import Derived.Test.YtjpccbjgmogclaaPureLinkOnce
import Derived.WalkKit
import Derived.ProofKit
import Derived.OpenShut
import Derived.ShutString
import Derived.ChangeOld
import Derived.Below
import Derived.SizedLaws
import Derived.Carry
namespace Go.Proofs.Ytjpccbjgmogclaa.linkOnce
open Go.ChangeShapes Go.WideShapes Go.ChangeAt Go.RowKit Go.Proofs.Ytjpccbjgmogclaa.Lift Go.Proofs.Ytjpccbjgmogclaa.TLK
open Go.ChangeMaps (open_string shut_string)
set_option linter.all false
theorem own : ownKnob Try.prog.godebug = none := by kernel_rfl
theorem laidOut : laidOutB Try.prog = true := by kernel_rfl
set_option maxRecDepth 100000 in
theorem lifted (os : Os) (started : os.Started) (H : Type) (enc : TypeId × Value → H) :
    ReturnsInHanded {} Try.checked os 3 .any (Rows.linkOnceSpec.pre6 enc Try.prog Try.f3 Rows.linkOnceRow.domain false) (Rows.linkOnceSpec.post enc Try.prog Try.f3 false true false false) := by
  refine returnsInHanded_of_change_sized (C := Try.checked) own started (by kernel_rfl) Try.func3
    (ChangeSpec.witness6 (enc := enc) (C := Try.checked) false ⟨#[], #[.slice none 0 0], []⟩ 8 (by kernel_rfl) (by kernel_rfl) (by kernel_rfl) (by kernel_rfl)) ?_
  intro W base args ds gs before hval0 hW hcnd hsz0 _
  have hval : ∀ (j : Nat) t v, Try.f3.params[j]? = some t → args[j]? = some v → Value.okWide Try.prog W .any base t v := hval0
  have hW' := hW
  obtain ⟨p, q, hA0, hV, rfl, hfz, hnd⟩ := hW
  have hA : DataW.TrodAll enc Try.prog W 0 (fun _ => true) true Try.f3.params.toList args.toList ds p := hA0
  rw [Try.params3] at hA hval
  obtain ⟨v0, vs0, d0, ds0, p0, q0, hargs, rfl, rfl, h0, r0⟩ := trodAll_cons hA
  obtain ⟨rfl, rfl, rfl⟩ := trodAll_nil r0
  obtain rfl : args = #[v0] := by cases args; simp_all
  obtain ⟨rfl, rfl⟩ := trodVars_none hV
  have k0 := h0
  have lt0 : ∀ x ∈ p0, x.block < W.heap.size := by obtain ⟨m, hm⟩ := k0; exact DataW.trod_lt m _ _ _ hm
  obtain ⟨y0, o0, g0, c0⟩ : ∃ y, (okSl oky27) y ∧ ((eSl 2 ey27) y).length = 1 ∧ RepC W (fun _ => False) mu0 ((eSl 2 ey27) y) v0.cells.toList.toArray := by
    obtain ⟨fuel, hf⟩ := h0
    exact (opens_sl Try.underlying22 (by kernel_rfl) (by decide) opy27) H enc W _ _ _ _ _ _ hf
  obtain ⟨u0, hu0, _, e0'⟩ := c0.2 0 _ rfl
  have e0 : Rep W (fun _ => False) mu0 (.ro 2 (y0.map ey27) false) v0 := by
    have hs : v0.cells = #[v0] := by
      obtain ⟨_, _, _, rfl⟩ := okWide_slice Try.underlying22 (hval 0 22 v0 rfl rfl)
      rfl
    rw [hs] at hu0
    obtain rfl : v0 = u0 := by simpa using hu0
    exact e0'
  clear hA0 hval0 hsz0
  have hrun := F_sound (P := Try.prog) Try.checked.mixed tok (Pure.LinkOnce y0 o0) (w := W) (vs := #[v0]) rfl (fun j c v hc hv => by
    cases j with
    | zero => cases hc; cases hv; exact e0
    | succ j =>
      simp at hc)
  refine hrun.mono fun e W' he' => ?_
  obtain ⟨v, X', μ', rfl, hr, bel⟩ := he'
  obtain rfl := rep_bool hr rfl
  exact ⟨_, rfl, _, _, _, [], _, [], hW', trodAll_mk1 (shut_bool Try.underlying4 _), (trodAll_cons_mk (Below.trod laidOut (by kernel_rfl) (of_decide_eq_true (by kernel_rfl)) k0 bel lt0) trodAll_mk0), rfl, bel.frame _, fun h => by cases h⟩
theorem over : Rows.linkOnceRow.holds Try.pinned (OpenSpec.ofChange Rows.linkOnceSpec) :=
  OpenClaim.holds_of_wide 3 Try.f3 rfl rfl rfl rfl rfl rfl rfl ⟨rfl, rfl, rfl, rfl, rfl⟩ rfl rfl rfl rfl rfl (by kernel_rfl) Try.func3 (by kernel_rfl)
    (of_decide_eq_true (by kernel_rfl)) (by unfold Func.isWrapper; first | (rw [if_pos (by decide +kernel)]; kernel_rfl) | (rw [if_neg (by decide +kernel)]; exact ⟨rfl, rfl⟩))
    (fun os started H enc _ => lifted os started H enc)
theorem proved : Rows.LinkOnceSaid := over
end Go.Proofs.Ytjpccbjgmogclaa.linkOnce
namespace Go.Proofs.Ytjpccbjgmogclaa
theorem linkOnce_holds : Rows.LinkOnceSaid := linkOnce.proved
end Go.Proofs.Ytjpccbjgmogclaa
