/- Whatever arrives at a gate, at most 200 things: of one incarnation of the peer the fresh ones have the numbers from 1 on, each once, in order, and none of an elder incarnation comes behind; no other condition. -/
import Derived.Test.YtckjliikaocifaaGSeenx4
import Derived.Test.YtckjliikaocifaaSeenBase
namespace Go.Proofs.Ytckjliikaocifaa.Pure
open Go.RowKit Go.Proofs.Ytckjliikaocifaa.GSeen Go.Proofs.Ytckjliikaocifaa.Seen Go.Proofs.YtckjliikaocifaaW.PrintWords Go.Proofs.YtckjliikaocifaaW.PrintLast

/-- what the law's notes (inc, last) say of the gate -/
def Inv (p l inc last : Int) : Prop := 0 ≤ l ∧ l ≤ 9223372036854775807 ∧ inc ≤ p ∧ (inc = p → last = l) ∧ (inc < p → l = 0)

theorem once_loop (m : Int) (xs : List S47) (hx : xs.length ≤ 200) (hw : ∀ y ∈ xs, ok47 y) : ∀ (d : Nat) (i p l inc last : Int), 0 ≤ i → i + d = xs.length → Inv p l inc last →
    Ev (fun k => siskinlaw25_SeenOnce.l0 k m xs inc last i m p l) true := by
  intro d
  induction d with
  | zero =>
    intro i p l inc last h0 hi hI
    refine Ev.step (fun k => ?_) (Ev.bind works_ev (Ev.now true))
    simp only [siskinlaw25_SeenOnce.l0]
    rw [if_neg (by omega)]
  | succ d ih =>
    intro i p l inc last h0 hi hI
    obtain ⟨g1, g2, g3, g4, g5⟩ := hI
    have hlt : i.toNat < xs.length := by omega
    have hr : rd_T47 xs i = xs[i.toNat] := by unfold rd_T47; simp [hlt]
    have hy := hw _ (List.getElem_mem hlt)
    generalize xs[i.toNat] = y at hr hy
    obtain ⟨e0, e1, e2⟩ := y
    obtain ⟨_, _, h2⟩ := hy
    have hs := i64_of h2
    dsimp only at hs
    have hT := take_ev m p l e0 e1 e2 g1 g2 hs.1 hs.2
    have hn : wrap64 (i + 1) = i + 1 := w64 (by omega) (by omega)
    have next : ∀ p' l' inc' last', Inv p' l' inc' last' → Ev (fun k => siskinlaw25_SeenOnce.l0 k m xs inc' last' (i + 1) m p' l') true := fun p' l' inc' last' h => ih (i + 1) p' l' inc' last' (by omega) (by omega) h
    have hll := ll_in p l e0 g1 g2
    -- what is not fresh: the gate may have learned
    have quiet : Ev (fun k => siskinlaw25_SeenOnce.l0 k m xs inc last (i + 1) m (lp p e0) (ll p l e0)) true := by
      refine next _ _ _ _ ⟨hll.1, hll.2, ?_, ?_, ?_⟩ <;> unfold lp <;> (try unfold ll) <;> split <;> omega
    refine Ev.step (f := fun k => (seen_Take.f k m p l e0 e1 e2).bind fun bt180 => (if bt180.2.2.2 = 1 then (if e0 < inc then (siskinlaw25_SeenOnce.j1 k m xs inc last i true bt180.1 bt180.2.1 bt180.2.2.1) else (siskinlaw25_SeenOnce.j1 k m xs inc last i (e1 != m) bt180.1 bt180.2.1 bt180.2.2.1)) else (siskinlaw25_SeenOnce.l0 k m xs inc last (wrap64 (i + 1)) bt180.1 bt180.2.1 bt180.2.2.1))) (fun k => ?_) (Ev.bind hT ?_)
    · simp only [siskinlaw25_SeenOnce.l0]
      rw [if_pos (by omega), if_pos h0, hr]
    · unfold T
      by_cases a : e0 < p
      · simp only [if_pos a]
        rw [hn]
        simp only [show ¬ (0 : Int) = 1 from by decide, if_false]
        exact next _ _ _ _ ⟨g1, g2, g3, g4, g5⟩
      · simp only [if_neg a]
        by_cases b : e1 < m
        · simp only [if_pos b, show ¬ (3 : Int) = 1 from by decide, if_false]
          rw [hn]
          exact quiet
        · simp only [if_neg b]
          by_cases c : e1 > m
          · simp only [if_pos c, show ¬ (0 : Int) = 1 from by decide, if_false]
            rw [hn]
            exact quiet
          · simp only [if_neg c]
            by_cases f : e2 = ll p l e0 + 1
            · simp only [if_pos f, if_true]
              obtain rfl : e1 = m := by omega
              rw [show (e1 != e1) = false from by simp]
              simp only [if_neg (show ¬ e0 < inc from by omega)]
              have hq : Ev (fun k => siskinlaw25_SeenOnce.l0 k e1 xs e0 e2 (i + 1) e1 (lp p e0) e2) true := by
                refine next _ _ _ _ ⟨by omega, hs.2, ?_, fun _ => rfl, ?_⟩ <;> unfold lp <;> split <;> omega
              by_cases q : e0 > inc
              · have h1 : e2 = 1 := by
                  unfold ll at f
                  split at f
                  · omega
                  · have := g5 (by omega); omega
                refine Ev.step (fun k => ?_) hq
                simp only [siskinlaw25_SeenOnce.j1]
                rw [if_neg (by decide), if_pos h0, if_pos (by omega), hr]
                dsimp only
                rw [if_pos q, w64 (x := e2 - 1) (by omega) (by omega), if_pos (by omega), hn]
              · have hpe : inc = p ∧ e0 = p := by omega
                have hlast := g4 hpe.1
                have h1 : e2 - 1 = last := by
                  unfold ll at f
                  rw [if_neg (by omega)] at f
                  omega
                obtain rfl : inc = e0 := by omega
                refine Ev.step (fun k => ?_) hq
                simp only [siskinlaw25_SeenOnce.j1]
                rw [if_neg (by decide), if_pos h0, if_pos (by omega), hr]
                dsimp only
                rw [if_neg (by omega), w64 (x := e2 - 1) (by omega) (by omega), if_pos h1, hn]
            · simp only [if_neg f]
              by_cases g : 1 ≤ e2 ∧ e2 ≤ ll p l e0
              · simp only [if_pos g, show ¬ (2 : Int) = 1 from by decide, if_false]
                rw [hn]
                exact quiet
              · simp only [if_neg g, show ¬ (0 : Int) = 1 from by decide, if_false]
                rw [hn]
                exact quiet

theorem SeenOnce : siskinlaw25_SeenOnce.Pure := by
  intro m xs _ hx
  refine Ev.rounds ?_
  unfold siskinlaw25_SeenOnce.f
  by_cases a : (xs.length : Int) > 200
  · simp only [if_pos a]
    exact Ev.bind works_ev (Ev.now true)
  · simp only [if_neg a, seen_New.f, Option.bind_some]
    exact once_loop m xs (by omega) hx.2 xs.length 0 1 0 0 0 (by omega) (by omega) ⟨by omega, by omega, by omega, by omega, by omega⟩

end Go.Proofs.Ytckjliikaocifaa.Pure
