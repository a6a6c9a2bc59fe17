/- A new round is due at the first tick and then at every again-th, for any again and any number of ticks up to 255; no conditions. -/
import Derived.Test.YtckjliikaocifaaGRoundx1
namespace Go.Proofs.Ytckjliikaocifaa.Pure
open Go.RowKit Go.Proofs.Ytckjliikaocifaa.GRound Go.Proofs.YtckjliikaocifaaW.PrintWords Go.Proofs.YtckjliikaocifaaW.PrintLast

namespace Due
theorem w64 {x : Int} (h : -9223372036854775808 ≤ x) (h' : x ≤ 9223372036854775807) : wrap64 x = x := by
  unfold wrap64
  omega
theorem u8_of {x : Int} (h : (Lit.int .u8 x).wf = true) : 0 ≤ x ∧ x ≤ 255 := by
  simp [Lit.wf, IntKind.min, IntKind.max, IntKind.signed, IntKind.bits] at h
  omega
theorem works_ev : Ev (fun _ => siskinlaw35_works.f) true := Ev.of (fun _ => LeO.refl _) (k := 0) (by decide +kernel)

/-- how many ticks are left at tick i -/
def left (n i : Int) : Int := if i % n = 0 then 1 else n - i % n + 1

theorem mod_succ {n i : Int} (hn : 0 < n) : ((i + 1) % n = 0 ∧ i % n = n - 1) ∨ ((i + 1) % n = i % n + 1 ∧ i % n < n - 1) := by
  have h0 := Int.emod_nonneg i (show n ≠ 0 by omega)
  have h1 := Int.emod_lt_of_pos i hn
  by_cases h : i % n = n - 1
  · left
    refine ⟨?_, h⟩
    have : i + 1 = n * (i / n) + n := by have := Int.mul_ediv_add_emod i n; omega
    rw [this]
    simp
  · right
    refine ⟨?_, by omega⟩
    have e : i + 1 = (i % n + 1) + n * (i / n) := by have := Int.mul_ediv_add_emod i n; omega
    rw [e, Int.add_mul_emod_self_left]
    exact Int.emod_eq_of_lt (by omega) (by omega)

theorem loop (n T : Int) (hn : 0 < n) (hn' : n ≤ 255) (hT : 0 ≤ T ∧ T ≤ 255) (b : Int) (had : List Bool) : ∀ (d : Nat) (i : Int), 0 ≤ i → i + d = T →
    Ev (fun k => siskinlaw35_RoundDue.l0 k n T i (left n i) b had) true := by
  have hnw : wrap64 n = n := w64 (by omega) (by omega)
  have hTw : wrap64 T = T := w64 (by omega) (by omega)
  intro d
  induction d with
  | zero =>
    intro i h0 hi
    refine Ev.step (fun k => ?_) (Ev.bind works_ev (Ev.now true))
    simp only [siskinlaw35_RoundDue.l0]
    rw [if_neg (by omega)]
  | succ d ih =>
    intro i h0 hi
    have hm0 := Int.emod_nonneg i (show n ≠ 0 by omega)
    have hm1 := Int.emod_lt_of_pos i hn
    have hw : wrap64 (i + 1) = i + 1 := w64 (by omega) (by omega)
    have htm : Int.tmod i n = i % n := Int.tmod_eq_emod_of_nonneg h0
    have hs := mod_succ (n := n) (i := i) hn
    have h := ih (i + 1) (by omega) (by omega)
    refine Ev.step (fun k => ?_) h
    simp only [siskinlaw35_RoundDue.l0]
    rw [if_pos (by omega), hnw, htm, hw]
    unfold round_Tick.f
    by_cases g : i % n = 0
    · have hl : left n i = 1 := by unfold left; rw [if_pos g]
      rw [hl, if_neg (by omega)]
      simp only [Option.bind_some]
      rw [if_neg (by omega), g]
      have hl2 : left n (i + 1) = n := by unfold left; split <;> omega
      rw [hl2]
      simp
    · have hl : left n i = n - i % n + 1 := by unfold left; rw [if_neg g]
      rw [hl, if_pos (by omega), w64 (x := n - i % n + 1 - 1) (by omega) (by omega)]
      simp only [Option.bind_some]
      rw [if_neg (by omega)]
      have hl2 : left n (i + 1) = n - i % n + 1 - 1 := by unfold left; split <;> omega
      rw [hl2]
      have hb : (i % n == 0) = false := beq_eq_false_iff_ne.2 g
      rw [hb]
      simp
end Due

theorem RoundDue : siskinlaw35_RoundDue.Pure := by
  intro n T h1 h2
  have hn := Due.u8_of h1
  have hT := Due.u8_of h2
  refine Ev.rounds ?_
  unfold siskinlaw35_RoundDue.f
  by_cases a : n = 0
  · simp only [if_pos a]
    exact Ev.bind Due.works_ev (Ev.now true)
  · simp only [if_neg a]
    have hm : round_New.f 3 = some (1, 0, List.replicate 3 false) := by decide +kernel
    rw [hm]
    simp only [Option.bind_some]
    have h := Due.loop n T (by omega) hn.2 hT 0 (List.replicate 3 false) T.toNat 0 (by omega) (by omega)
    rwa [show Due.left n 0 = 1 from by unfold Due.left; rw [if_pos (by simp)]] at h

end Go.Proofs.Ytckjliikaocifaa.Pure
