/- For every gate whose Last is at least 0, and every arrival, Take and Learn answer as the document's reference, and New makes the gate that it should. -/
import Derived.Test.YtckjliikaocifaaGSeenx3
import Derived.Test.YtckjliikaocifaaSeenBase
namespace Go.Proofs.Ytckjliikaocifaa.Pure
open Go.RowKit Go.Proofs.Ytckjliikaocifaa.GSeen Go.Proofs.Ytckjliikaocifaa.Seen Go.Proofs.YtckjliikaocifaaW.PrintWords Go.Proofs.YtckjliikaocifaaW.PrintLast

theorem SeenTakes : siskinlaw25_SeenTakes.Pure := by
  intro m p l i e s h1 h2
  obtain ⟨_, _, h3⟩ := h1
  obtain ⟨_, _, h4⟩ := h2
  have hl := i64_of h3
  have hs := i64_of h4
  refine Ev.rounds ?_
  unfold siskinlaw25_SeenTakes.f
  by_cases a : l < 0
  · simp only [a, if_true]
    exact Ev.bind works_ev (Ev.now true)
  · simp only [a, if_false]
    refine Ev.bind (take_ev m p l i e s (by omega) hl.2 hs.1 hs.2) (Ev.bind (ref_ev m p l i e s (by omega) hl.2 hs.2) ?_)
    rw [learn, ref_learn]
    simp only [Option.bind_some, seen_New.f, beq_self_eq_true, Bool.and_self, if_true]
    exact Ev.bind works_ev (Ev.now true)

end Go.Proofs.Ytckjliikaocifaa.Pure
