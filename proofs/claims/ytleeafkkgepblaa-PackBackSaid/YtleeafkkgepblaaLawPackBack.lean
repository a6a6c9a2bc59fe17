/- The law of the program that the row names: its call yields true, whatever comes in. -/
import Derived.Test.YtleeafkkgepblaaRows
import Derived.Test.YtleeafkkgepblaaPurePackBack
import Derived.WalkKit
import Derived.ProofKit
import Derived.OpenShut
import Derived.ShutString
import Derived.ChangeOld
import Derived.Below
import Derived.SizedLaws
import Derived.Carry
namespace Go.Proofs.Ytleeafkkgepblaa.packBack
open Go.ChangeShapes Go.WideShapes Go.ChangeAt Go.RowKit Go.Proofs.Ytleeafkkgepblaa.Lift Go.Proofs.Ytleeafkkgepblaa.TPB
open Go.ChangeMaps (open_string shut_string)
set_option linter.all false
theorem own : ownKnob Try.prog.godebug = none := by kernel_rfl
theorem laidOut : laidOutB Try.prog = true := by kernel_rfl
set_option maxRecDepth 100000 in
theorem lifted (os : Os) (started : os.Started) (H : Type) (enc : TypeId × Value → H) :
    ReturnsInHanded {} Try.checked os 3 .any (Rows.packBackSpec.pre6 enc Try.prog Try.f3 Rows.packBackRow.domain false) (Rows.packBackSpec.post enc Try.prog Try.f3 false true false false) := by
  refine returnsInHanded_of_change_sized (C := Try.checked) own started (by kernel_rfl) Try.func3
    (ChangeSpec.witness6 (enc := enc) (C := Try.checked) false ⟨#[], #[.agg #[.int .i64 0, .int .i64 0, .int .i64 0, .int .i64 0, .int .i64 0, .int .i64 0, .string ByteArray.empty], .string ByteArray.empty, .agg #[.int .u32 0, .int .u32 0]], []⟩ 8 (by kernel_rfl) (by kernel_rfl) (by kernel_rfl) (by kernel_rfl)) ?_
  intro W base args ds gs before hval0 hW hcnd hsz0 _
  have hval : ∀ (j : Nat) t v, Try.f3.params[j]? = some t → args[j]? = some v → Value.okWide Try.prog W .any base t v := hval0
  have hW' := hW
  obtain ⟨p, q, hA0, hV, rfl, hfz, hnd⟩ := hW
  have hA : DataW.TrodAll enc Try.prog W 0 (fun _ => true) true Try.f3.params.toList args.toList ds p := hA0
  rw [Try.params3] at hA hval
  obtain ⟨v0, vs0, d0, ds0, p0, q0, hargs, rfl, rfl, h0, r0⟩ := trodAll_cons hA
  obtain ⟨v1, vs1, d1, ds1, p1, q1, rfl, rfl, rfl, h1, r1⟩ := trodAll_cons r0
  obtain ⟨v2, vs2, d2, ds2, p2, q2, rfl, rfl, rfl, h2, r2⟩ := trodAll_cons r1
  obtain ⟨rfl, rfl, rfl⟩ := trodAll_nil r2
  obtain rfl : args = #[v0, v1, v2] := by cases args; simp_all
  obtain ⟨rfl, rfl⟩ := trodVars_none hV
  have k0 := h0
  have lt0 : ∀ x ∈ p0, x.block < W.heap.size := by obtain ⟨m, hm⟩ := k0; exact DataW.trod_lt m _ _ _ hm
  obtain ⟨y0, o0, g0, c0⟩ : ∃ y, oky23 y ∧ (ey23 y).length = 7 ∧ RepC W (fun _ => False) mu0 (ey23 y) v0.cells.toList.toArray := by
    obtain ⟨fuel, hf⟩ := h0
    exact opy23 H enc W _ _ _ _ _ _ hf
  obtain ⟨cs0, rfl, hz0⟩ := okWide_struct Try.underlying23 (hval 0 23 v0 rfl rfl)
  have e0 : Rep W (fun _ => False) mu0 (.agg (ey23 y0)) (.agg cs0) := rep_agg (by simpa [Value.cells] using c0)
  have k1 := h1
  have lt1 : ∀ x ∈ p1, x.block < W.heap.size := by obtain ⟨m, hm⟩ := k1; exact DataW.trod_lt m _ _ _ hm
  obtain ⟨y1, o1, g1, c1⟩ : ∃ y, okStr y ∧ (eStr y).length = 1 ∧ RepC W (fun _ => False) mu0 (eStr y) v1.cells.toList.toArray := by
    obtain ⟨fuel, hf⟩ := h1
    exact (opens_str Try.underlying9) H enc W _ _ _ _ _ _ hf
  obtain ⟨u1, hu1, _, e1'⟩ := c1.2 0 _ rfl
  have e1 : Rep W (fun _ => False) mu0 (.str y1) v1 := by
    have hs : v1.cells = #[v1] := by
      obtain ⟨_, rfl, _⟩ := open_string Try.underlying9 (hval 1 9 v1 rfl rfl) h1
      rfl
    rw [hs] at hu1
    obtain rfl : v1 = u1 := by simpa using hu1
    exact e1'
  have k2 := h2
  have lt2 : ∀ x ∈ p2, x.block < W.heap.size := by obtain ⟨m, hm⟩ := k2; exact DataW.trod_lt m _ _ _ hm
  obtain ⟨y2, o2, g2, c2⟩ : ∃ y, oky25 y ∧ (ey25 y).length = 2 ∧ RepC W (fun _ => False) mu0 (ey25 y) v2.cells.toList.toArray := by
    obtain ⟨fuel, hf⟩ := h2
    exact opy25 H enc W _ _ _ _ _ _ hf
  obtain ⟨cs2, rfl, hz2⟩ := okWide_arr Try.underlying25 (hval 2 25 v2 rfl rfl)
  have e2 : Rep W (fun _ => False) mu0 (.agg (ey25 y2)) (.agg cs2) := rep_agg (by simpa [Value.cells] using c2)
  clear hA0 hval0 hsz0
  have hrun := F_sound (P := Try.prog) Try.checked.mixed tok (Pure.PackBack y0 y1 y2 o0 o1 o2) (w := W) (vs := #[.agg cs0, v1, .agg cs2]) rfl (fun j c v hc hv => by
    cases j with
    | zero => cases hc; cases hv; exact e0
    | succ j =>
      cases j with
      | zero => cases hc; cases hv; exact e1
      | succ j =>
        cases j with
        | zero => cases hc; cases hv; exact e2
        | succ j =>
          simp at hc)
  refine hrun.mono fun e W' he' => ?_
  obtain ⟨v, X', μ', rfl, hr, bel⟩ := he'
  obtain rfl := rep_bool hr rfl
  exact ⟨_, rfl, _, _, _, [], _, [], hW', trodAll_mk1 (shut_bool Try.underlying4 _), (trodAll_cons_mk (Below.trod laidOut (by kernel_rfl) (of_decide_eq_true (by kernel_rfl)) k0 bel lt0) (trodAll_cons_mk (Below.trod laidOut (by kernel_rfl) (of_decide_eq_true (by kernel_rfl)) k1 bel lt1) (trodAll_cons_mk (Below.trod laidOut (by kernel_rfl) (of_decide_eq_true (by kernel_rfl)) k2 bel lt2) trodAll_mk0))), rfl, bel.frame _, fun h => by cases h⟩
theorem over : Rows.packBackRow.holds Try.pinned (OpenSpec.ofChange Rows.packBackSpec) :=
  OpenClaim.holds_of_wide 3 Try.f3 rfl rfl rfl rfl rfl rfl rfl ⟨rfl, rfl, rfl, rfl, rfl⟩ rfl rfl rfl rfl rfl (by kernel_rfl) Try.func3 (by kernel_rfl)
    (of_decide_eq_true (by kernel_rfl)) (by unfold Func.isWrapper; first | (rw [if_pos (by decide +kernel)]; kernel_rfl) | (rw [if_neg (by decide +kernel)]; exact ⟨rfl, rfl⟩))
    (fun os started H enc _ => lifted os started H enc)
theorem proved : Rows.PackBackSaid := over
end Go.Proofs.Ytleeafkkgepblaa.packBack
namespace Go.Proofs.Ytleeafkkgepblaa
theorem packBack_holds : Rows.PackBackSaid := packBack.proved
end Go.Proofs.Ytleeafkkgepblaa
