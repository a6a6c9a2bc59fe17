/- For any lease from 1 to 255, any n and any number of ticks up to 255: who is heard of every n-th tick, n below the lease, is never silent; who is no longer heard of is silent after as many ticks as the lease, and not before; no conditions. -/
import Derived.Test.YtckjliikaocifabGBeatx3
import Derived.Test.YtckjliikaocifabBeatBase
namespace Go.Proofs.Ytckjliikaocifab.Pure
open Go.RowKit Go.Proofs.Ytckjliikaocifab.GBeat Go.Proofs.Ytckjliikaocifab.Beat Go.Proofs.YtckjliikaocifabW.PrintWords Go.Proofs.YtckjliikaocifabW.PrintLast

theorem mod_succ {n i : Int} (hn : 0 < n) : ((i + 1) % n = 0 ∧ i % n = n - 1) ∨ ((i + 1) % n = i % n + 1 ∧ i % n < n - 1) := by
  have h0 := Int.emod_nonneg i (show n ≠ 0 by omega)
  have h1 := Int.emod_lt_of_pos i hn
  by_cases h : i % n = n - 1
  · left
    refine ⟨?_, h⟩
    have : i + 1 = n * (i / n) + n := by have := Int.mul_ediv_add_emod i n; omega
    rw [this]
    simp
  · right
    refine ⟨?_, by omega⟩
    have e : i + 1 = (i % n + 1) + n * (i / n) := by have := Int.mul_ediv_add_emod i n; omega
    rw [e, Int.add_mul_emod_self_left]
    exact Int.emod_eq_of_lt (by omega) (by omega)

/-- an age that may be -/
def age (L x : Int) : Prop := 0 ≤ x ∧ x ≤ L
theorem age_bump {L x : Int} (h : age L x) : age L (bump L x) := by
  unfold age bump at *
  split <;> omega

theorem tick3 (L x y z : Int) (hL : 1 ≤ L ∧ L ≤ 255) (hx : age L x) (hy : age L y) (hz : age L z) : Ev (fun k => beat_Tick.f k 0 L [x, y, z]) (0, L, [bump L x, bump L y, bump L z]) := by
  refine tick_ev 0 L [x, y, z] ⟨by omega, by omega⟩ (by simp) ?_
  intro w hw
  unfold age at *
  simp at hw
  rcases hw with rfl | rfl | rfl <;> exact ⟨by omega, by omega⟩
theorem silent1 (L x y z : Int) : beat_Silent.f 0 L [x, y, z] 1 = some (decide (y ≥ L)) := by
  simp [beat_Silent.f, beat_there.f, rd]
theorem silent2 (L x y z : Int) : beat_Silent.f 0 L [x, y, z] 2 = some (decide (z ≥ L)) := by
  simp [beat_Silent.f, beat_there.f, rd]
theorem hear1 (L x y z : Int) : beat_Hear.f 0 L [x, y, z] 1 = some (0, L, [x, 0, z]) := by
  simp [beat_Hear.f, beat_there.f, slices_Clone_int_int.f]
theorem hear2 (L x y z : Int) : beat_Hear.f 0 L [x, y, z] 2 = some (0, L, [x, y, 0]) := by
  simp [beat_Hear.f, beat_there.f, slices_Clone_int_int.f]

theorem second (L : Int) (hL : 1 ≤ L ∧ L ≤ 255) : ∀ (d : Nat) (i x y z : Int), 1 ≤ i → i + d = L + 1 → age L x → age L y → z = i - 1 → Ev (fun k => siskinlaw37_BeatLeases.l1 k L i 0 L [x, y, z]) true := by
  have hw : wrap64 L = L := w64 (by omega) (by omega)
  intro d
  induction d with
  | zero =>
    intro i x y z h1 hi hx hy hz
    refine Ev.step (fun k => ?_) (Ev.bind works_ev (Ev.now true))
    simp only [siskinlaw37_BeatLeases.l1]
    rw [hw, if_neg (by omega), silent2, decide_eq_true (by omega)]
    simp
  | succ d ih =>
    intro i x y z h1 hi hx hy hz
    have hi1 : wrap64 (i + 1) = i + 1 := w64 (by omega) (by omega)
    have h := ih (i + 1) (bump L x) (bump L y) (bump L z) (by omega) (by omega) (age_bump hx) (age_bump hy) (by unfold bump; rw [if_pos (by omega)]; omega)
    refine Ev.step (fun k => ?_) (Ev.bind (f := fun k bt => siskinlaw37_BeatLeases.l1 k L (i + 1) bt.1 bt.2.1 bt.2.2) (tick3 L x y z hL hx hy ⟨by omega, by omega⟩) h)
    simp only [siskinlaw37_BeatLeases.l1]
    rw [hw, if_pos (by omega), silent2, decide_eq_false (by omega), hi1]
    simp

theorem leave (L n T i x y z : Int) (hL : 1 ≤ L ∧ L ≤ 255) (hx : age L x) (hy : age L y) : Ev (fun k => siskinlaw37_BeatLeases.j1 k L n T i false 0 L [x, y, z]) true := by
  refine Ev.step (fun k => ?_) (second L hL L.toNat 1 x y 0 (by omega) (by omega) hx hy (by omega))
  simp only [siskinlaw37_BeatLeases.j1]
  rw [if_neg (by decide), hear2]
  rfl

theorem first (L n T : Int) (hL : 1 ≤ L ∧ L ≤ 255) (hn : 0 ≤ n ∧ n ≤ 255) (hT : 0 ≤ T ∧ T ≤ 255) : ∀ (d : Nat) (i x y z : Int), 1 ≤ i → i + d = T + 1 → age L x → age L y → age L z → (0 < n → y = (i - 1) % n) →
    Ev (fun k => siskinlaw37_BeatLeases.l0 k L n T i 0 L [x, y, z]) true := by
  have hTw : wrap64 T = T := w64 (by omega) (by omega)
  have hnw : wrap64 n = n := w64 (by omega) (by omega)
  intro d
  induction d with
  | zero =>
    intro i x y z h1 hi hx hy hz _
    refine Ev.step (fun k => ?_) (leave L n T i x y z hL hx hy)
    simp only [siskinlaw37_BeatLeases.l0]
    rw [hTw, if_neg (by omega)]
  | succ d ih =>
    intro i x y z h1 hi hx hy hz hm
    have hi1 : wrap64 (i + 1) = i + 1 := w64 (by omega) (by omega)
    by_cases a : n > 0
    · by_cases b : n < L
      · have hy' := hm a
        have hm0 := Int.emod_nonneg (i - 1) (show n ≠ 0 by omega)
        have hm1 := Int.emod_lt_of_pos (i - 1) (show 0 < n by omega)
        have hs := mod_succ (n := n) (i := i - 1) (by omega)
        rw [show i - 1 + 1 = i from by omega] at hs
        have hby : bump L y = y + 1 := by unfold bump; rw [if_pos (by omega)]
        have htm : Int.tmod i n = i % n := Int.tmod_eq_emod_of_nonneg (by omega)
        have rest : Ev (fun k => if Int.tmod i n = 0 then (beat_Hear.f 0 L [bump L x, y + 1, bump L z] 1).bind fun bt161 => siskinlaw37_BeatLeases.l0 k L n T (i + 1) bt161.1 bt161.2.1 bt161.2.2 else siskinlaw37_BeatLeases.l0 k L n T (i + 1) 0 L [bump L x, y + 1, bump L z]) true := by
          rw [htm, hear1]
          simp only [Option.bind_some]
          by_cases g : i % n = 0
          · simp only [if_pos g]
            exact ih (i + 1) (bump L x) 0 (bump L z) (by omega) (by omega) (age_bump hx) ⟨by omega, by omega⟩ (age_bump hz) (fun _ => by rw [show i + 1 - 1 = i from by omega]; omega)
          · simp only [if_neg g]
            exact ih (i + 1) (bump L x) (y + 1) (bump L z) (by omega) (by omega) (age_bump hx) ⟨by omega, by omega⟩ (age_bump hz) (fun _ => by rw [show i + 1 - 1 = i from by omega]; omega)
        have go : Ev (fun k => siskinlaw37_BeatLeases.j1 k L n T i true 0 L [x, y, z]) true := by
          refine Ev.step (f := fun k => (beat_Tick.f k 0 L [x, y, z]).bind fun bt155 => ((beat_Silent.f bt155.1 bt155.2.1 bt155.2.2 1).bind fun t160 => (if t160 = true then (some false) else (if (wrap64 (n)) = 0 then (none) else (if (Int.tmod i (wrap64 (n))) = 0 then ((beat_Hear.f bt155.1 bt155.2.1 bt155.2.2 1).bind fun bt161 => (siskinlaw37_BeatLeases.l0 k L n T (wrap64 (i + 1)) bt161.1 bt161.2.1 bt161.2.2)) else (siskinlaw37_BeatLeases.l0 k L n T (wrap64 (i + 1)) bt155.1 bt155.2.1 bt155.2.2))))))
            (fun k => by simp only [siskinlaw37_BeatLeases.j1]; rw [if_pos trivial]) (Ev.bind (tick3 L x y z hL hx hy hz) ?_)
          have hsil : beat_Silent.f 0 L [bump L x, y + 1, bump L z] 1 = some false := by rw [silent1, decide_eq_false (by omega)]
          have hn0 : ¬ n = 0 := by omega
          simp only [hby, hsil, hnw, hi1, Option.bind_some, hn0, if_false, Bool.false_eq_true]
          exact rest
        refine Ev.step (fun k => ?_) go
        simp only [siskinlaw37_BeatLeases.l0]
        rw [hTw, if_pos (by omega), if_pos a, decide_eq_true b]
      · refine Ev.step (fun k => ?_) (leave L n T i x y z hL hx hy)
        simp only [siskinlaw37_BeatLeases.l0]
        rw [hTw, if_pos (by omega), if_pos a, decide_eq_false b]
    · refine Ev.step (fun k => ?_) (leave L n T i x y z hL hx hy)
      simp only [siskinlaw37_BeatLeases.l0]
      rw [hTw, if_pos (by omega), if_neg a]

theorem BeatLeases : siskinlaw37_BeatLeases.Pure := by
  intro L n T h1 h2 h3
  have hL := u8_of h1
  have hn := u8_of h2
  have hT := u8_of h3
  refine Ev.rounds ?_
  unfold siskinlaw37_BeatLeases.f
  by_cases a : L = 0
  · simp only [if_pos a]
    exact Ev.bind works_ev (Ev.now true)
  · simp only [if_neg a]
    have hm : beat_New.f 3 0 (wrap64 L) = some (0, L, [0, 0, 0]) := by
      rw [w64 (by omega) (by omega)]
      rfl
    rw [hm]
    simp only [Option.bind_some]
    exact first L n T ⟨by omega, hL.2⟩ hn hT T.toNat 1 0 0 0 (by omega) (by omega) ⟨by omega, by omega⟩ ⟨by omega, by omega⟩ ⟨by omega, by omega⟩ (fun h => by simp)

end Go.Proofs.Ytckjliikaocifab.Pure
