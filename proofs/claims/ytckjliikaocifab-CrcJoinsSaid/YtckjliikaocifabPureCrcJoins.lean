/- For any bytes, at most 1,000 each, crc.More over the sum of the first gives the sum of both joined; no other condition. -/
import Derived.Test.YtckjliikaocifabGCrcx3
import Derived.Test.YtckjliikaocifabCrcBase
namespace Go.Proofs.Ytckjliikaocifab.Pure
open Go.RowKit Go.Proofs.Ytckjliikaocifab.GCrc Go.Proofs.Ytckjliikaocifab.CrcBase Go.Proofs.YtckjliikaocifabW.PrintWords Go.Proofs.YtckjliikaocifabW.PrintLast

theorem joins_late (a b : List Int) : Ev (fun k => siskinlaw02_CrcJoins.j0 k a b true) true := by
  refine Ev.step (fun k => ?_) (Ev.bind works_f (Ev.now true))
  simp only [siskinlaw02_CrcJoins.j0]
  rw [if_pos trivial]

theorem joins_now (a b : List Int) (ha : a.length ≤ 1000) (hb : b.length ≤ 1000) (ba : ∀ x ∈ a, isByte x) (bb : ∀ x ∈ b, isByte x) : Ev (fun k => siskinlaw02_CrcJoins.j0 k a b false) true := by
  have h1 := Of_f a (by omega) ba
  have h3 : Ev (fun k => crc_More.f k (I (crc a)) b) (I (crc (a ++ b))) := by
    have := More_f (crc a) b (by omega) bb
    rwa [crc_append] at this
  have h4 : Ev (fun k => crc_Of.f k (a ++ b)) (I (crc (a ++ b))) := Of_f (a ++ b) (by rw [List.length_append]; omega) (by
    intro x hx
    rcases List.mem_append.1 hx with h | h
    · exact ba x h
    · exact bb x h)
  refine Ev.step (g := fun k => siskinlaw02_CrcJoins.j0 k a b false) (f := fun k => (crc_Of.f k a).bind fun t115 => ((crc_More.f k t115 b).bind fun t116 => ((crc_Of.f k (a ++ b)).bind fun t126 => (if t116 = t126 then ((siskinlaw02_works.f k).bind fun t127 => (some t127)) else (some false))))) (fun k => ?_) ?_
  · simp only [siskinlaw02_CrcJoins.j0]
    rw [if_neg (by decide)]
    simp only [Option.bind_some, List.nil_append, List.length_nil, Nat.zero_add, show a.length < 140737488355328 from by omega, if_true, show a.length + b.length < 140737488355328 from by omega]
  · refine Ev.bind h1 (Ev.bind h3 (Ev.bind h4 ?_))
    simp only [if_true]
    exact Ev.bind works_f (Ev.now true)

theorem CrcJoins : siskinlaw02_CrcJoins.Pure := by
  intro a b _ _ ba _ _ bb
  refine Ev.rounds ?_
  unfold siskinlaw02_CrcJoins.f
  by_cases ha : (a.length : Int) > 1000
  · simp only [ha, if_true]
    exact joins_late a b
  · simp only [ha, if_false]
    by_cases hb : (b.length : Int) > 1000
    · simp only [hb, decide_true]
      exact joins_late a b
    · simp only [hb, decide_false]
      exact joins_now a b (by omega) (by omega) (bytes_of_wf ba) (bytes_of_wf bb)

end Go.Proofs.Ytckjliikaocifab.Pure
