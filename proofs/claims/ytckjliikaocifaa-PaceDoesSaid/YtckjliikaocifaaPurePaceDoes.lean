/- For every pace, Tick, Check, New, Start and Stop answer as the document's reference; no conditions. -/
import Derived.Test.YtckjliikaocifaaGPacex5
import Derived.Test.YtckjliikaocifaaPaceBase
namespace Go.Proofs.Ytckjliikaocifaa.Pure
open Go.RowKit Go.Proofs.Ytckjliikaocifaa.GPace Go.Proofs.YtckjliikaocifaaW.PrintWords Go.Proofs.YtckjliikaocifaaW.PrintLast

theorem stop_f (w l : Int) : pace_Stop.f w l = some (1, 0) := by
  unfold pace_Stop.f pace_New.f
  simp only [Option.bind_some]
  by_cases h : w = 1 ∧ l = 0
  · obtain ⟨rfl, rfl⟩ := h
    rfl
  · rw [if_pos]
    simp only [Bool.or_eq_true, Bool.not_eq_true', beq_eq_false_iff_ne]
    omega

theorem PaceDoes : siskinlaw13_PaceDoes.Pure := by
  intro w l _
  refine ⟨30000, ?_⟩
  unfold siskinlaw13_PaceDoes.f
  rw [pace_tick, ref_tick, pace_check, ref_check, start_f, stop_f, works_true]
  simp [pace_New.f]

end Go.Proofs.Ytckjliikaocifaa.Pure
