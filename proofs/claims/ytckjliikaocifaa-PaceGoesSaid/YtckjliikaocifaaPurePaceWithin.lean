/- For every int, pace.Within answers what the reference's Within answers (beyond 3,000 times: what the reference answers for 10, and 8 for each one more); no conditions. -/
import Derived.Test.YtckjliikaocifaaGPacex2
namespace Go.Proofs.Ytckjliikaocifaa.Pure
open Go.RowKit Go.Proofs.Ytckjliikaocifaa.GPace Go.Proofs.YtckjliikaocifaaW.PrintWords Go.Proofs.YtckjliikaocifaaW.PrintLast

theorem w64 {x : Int} (h : -9223372036854775808 ≤ x) (h' : x ≤ 9223372036854775807) : wrap64 x = x := by
  unfold wrap64
  omega

/-- what Within comes to, of a number that is neither below zero nor too great -/
def pw (n : Int) : Int := if n ≤ 0 then 0 else if n = 1 then 1 else if n = 2 then 3 else 7 + 8 * (n - 3)

theorem pace_loop (n : Int) (h0 : 0 ≤ n) (h1 : n ≤ 1048576) (k : Nat) : pace_Within.l0 (k + 4) n 0 1 = some (pw n) := by
  unfold pw
  by_cases a : n ≤ 0
  · obtain rfl : n = 0 := by omega
    simp [pace_Within.l0, wrap64]
  · by_cases b : n = 1
    · subst b; simp [pace_Within.l0, wrap64]
    · by_cases c : n = 2
      · subst c; simp [pace_Within.l0, wrap64]
      · rw [if_neg a, if_neg b, if_neg c]
        simp only [pace_Within.l0]
        rw [if_pos (by omega), if_pos (by decide), w64 (x := n - 1) (by omega) (by omega), if_pos (by omega), show wrap64 (1 * 2) = 2 from by simp [wrap64], if_pos (by decide),
          w64 (x := n - 1 - 1) (by omega) (by omega), if_pos (by omega), show wrap64 (2 * 2) = 4 from by simp [wrap64], if_pos (by decide), w64 (x := n - 1 - 1 - 1) (by omega) (by omega),
          show wrap64 (4 * 2) = 8 from by simp [wrap64], show wrap64 (wrap64 (wrap64 (0 + 1) + 2) + 4) = 7 from by simp [wrap64]]
        by_cases d : n - 1 - 1 - 1 > 0
        · rw [if_pos d, if_neg (by decide), w64 (x := (n - 1 - 1 - 1) * 8) (by omega) (by omega), w64 (by omega) (by omega)]
          congr 1; omega
        · rw [if_neg d, w64 (x := (n - 1 - 1 - 1) * 8) (by omega) (by omega), w64 (by omega) (by omega)]
          congr 1; omega

theorem pace_f (n : Int) (h1 : n ≤ 1048576) (k : Nat) : pace_Within.f (k + 4) n = some (pw n) := by
  unfold pace_Within.f
  by_cases h : n < 0
  · have e : mn (mx n 0) 1048576 = 0 := by unfold mx mn; rw [if_pos h]; rfl
    rw [e, pace_loop 0 (by omega) (by omega)]
    unfold pw; rw [if_pos (by omega), if_pos (by omega)]
  · have e : mn (mx n 0) 1048576 = n := by unfold mx mn; rw [if_neg h]; split <;> omega
    rw [e, pace_loop n (by omega) h1]

theorem tick_down (l : Int) (h : 2 ≤ l) (h' : l ≤ 8) : siskinref13_Tick.f 8 l = some (8, l - 1, false) := by
  unfold siskinref13_Tick.f siskinref13_Check.f
  rw [if_neg (by decide), if_neg (by decide), if_neg (by decide), if_pos rfl, if_pos (by omega)]
  simp only [Option.bind_some]
  rw [if_pos (by simpa using h'), if_neg (by omega), if_pos (by omega), w64 (by omega) (by omega)]

theorem tick_out : siskinref13_Tick.f 8 1 = some (8, 8, true) := by decide +kernel

theorem step_down (k : Nat) (x t l : Int) (hx : 0 < x) (ht : 0 ≤ t) (ht' : t ≤ 1000000000) (h : 2 ≤ l) (h' : l ≤ 8) :
    siskinref13_Within.l0 (k + 1) x t 8 l = siskinref13_Within.l0 k x (t + 1) 8 (l - 1) := by
  simp only [siskinref13_Within.l0]
  rw [if_pos hx, tick_down l h h']
  simp only [Option.bind_some]
  rw [if_neg (by decide), w64 (by omega) (by omega)]

theorem step_out (k : Nat) (x t : Int) (hx : 0 < x) (hx' : x ≤ 1000000000) (ht : 0 ≤ t) (ht' : t ≤ 1000000000) :
    siskinref13_Within.l0 (k + 1) x t 8 1 = siskinref13_Within.l0 k (x - 1) (t + 1) 8 8 := by
  simp only [siskinref13_Within.l0]
  rw [if_pos hx, tick_out]
  simp only [Option.bind_some]
  rw [if_pos trivial, w64 (by omega) (by omega), w64 (by omega) (by omega)]

theorem eight (n : Nat) : ∀ (k : Nat) (t : Int), 0 ≤ t → t + 8 * n ≤ 1000000000 → siskinref13_Within.l0 (k + 1 + 8 * n) n t 8 8 = some (t + 8 * n) := by
  induction n with
  | zero => intro k t _ _; simp [siskinref13_Within.l0]
  | succ n ih =>
    intro k t h0 h1
    rw [show k + 1 + 8 * (n + 1) = k + 1 + 8 * n + 1 + 1 + 1 + 1 + 1 + 1 + 1 + 1 from by omega,
      step_down _ _ _ _ (by omega) (by omega) (by omega) (by omega) (by omega), step_down _ _ _ _ (by omega) (by omega) (by omega) (by omega) (by omega),
      step_down _ _ _ _ (by omega) (by omega) (by omega) (by omega) (by omega), step_down _ _ _ _ (by omega) (by omega) (by omega) (by omega) (by omega),
      step_down _ _ _ _ (by omega) (by omega) (by omega) (by omega) (by omega), step_down _ _ _ _ (by omega) (by omega) (by omega) (by omega) (by omega),
      step_down _ _ _ _ (by omega) (by omega) (by omega) (by omega) (by omega), show (8 : Int) - 1 - 1 - 1 - 1 - 1 - 1 - 1 = 1 from by decide,
      step_out _ _ _ (by omega) (by omega) (by omega) (by omega), show ((n + 1 : Nat) : Int) - 1 = (n : Int) from by omega, ih k _ (by omega) (by omega)]
    congr 1; omega

theorem ref_small (n : Int) (h : n ≤ 2) (k : Nat) : siskinref13_Within.f (k + 16) n = some (pw n) := by
  by_cases a : n ≤ 0
  · unfold siskinref13_Within.f pw
    rw [if_pos a]; simp only [siskinref13_Within.l0]; rw [if_neg (by omega)]
  · by_cases b : n = 1
    · subst b
      exact at_rounds (siskinref13_Within.mono 1) (by omega : 16 ≤ k + 16) (by decide +kernel)
    · obtain rfl : n = 2 := by omega
      exact at_rounds (siskinref13_Within.mono 2) (by omega : 16 ≤ k + 16) (by decide +kernel)

theorem ref_great (n : Nat) (h : n ≤ 3000) (k : Nat) : siskinref13_Within.f (k + 1 + 8 * n + 7) (n + 3 : Nat) = some (pw (n + 3 : Nat)) := by
  have t1 : siskinref13_Tick.f 1 1 = some (2, 2, true) := by decide +kernel
  have t2 : siskinref13_Tick.f 2 2 = some (2, 1, false) := by decide +kernel
  have t3 : siskinref13_Tick.f 2 1 = some (4, 4, true) := by decide +kernel
  have t4 : siskinref13_Tick.f 4 4 = some (4, 3, false) := by decide +kernel
  have t5 : siskinref13_Tick.f 4 3 = some (4, 2, false) := by decide +kernel
  have t6 : siskinref13_Tick.f 4 2 = some (4, 1, false) := by decide +kernel
  have t7 : siskinref13_Tick.f 4 1 = some (8, 8, true) := by decide +kernel
  unfold siskinref13_Within.f
  rw [show k + 1 + 8 * n + 7 = k + 1 + 8 * n + 1 + 1 + 1 + 1 + 1 + 1 + 1 from by omega]
  simp only [siskinref13_Within.l0]
  rw [if_pos (by omega), t1]
  simp only [Option.bind_some]
  rw [if_pos trivial, w64 (x := ((n + 3 : Nat) : Int) - 1) (by omega) (by omega), if_pos (by omega), t2]
  simp only [Option.bind_some]
  rw [if_neg (by decide), if_pos (by omega), t3]
  simp only [Option.bind_some]
  rw [if_pos trivial, w64 (x := ((n + 3 : Nat) : Int) - 1 - 1) (by omega) (by omega), if_pos (by omega), t4]
  simp only [Option.bind_some]
  rw [if_neg (by decide), if_pos (by omega), t5]
  simp only [Option.bind_some]
  rw [if_neg (by decide), if_pos (by omega), t6]
  simp only [Option.bind_some]
  rw [if_neg (by decide), if_pos (by omega), t7]
  simp only [Option.bind_some]
  rw [if_pos trivial, w64 (x := ((n + 3 : Nat) : Int) - 1 - 1 - 1) (by omega) (by omega), show ((n + 3 : Nat) : Int) - 1 - 1 - 1 = (n : Int) from by omega,
    show wrap64 (wrap64 (wrap64 (wrap64 (wrap64 (wrap64 (wrap64 (0 + 1) + 1) + 1) + 1) + 1) + 1) + 1) = 7 from by simp [wrap64], eight n k 7 (by omega) (by omega)]
  unfold pw
  rw [if_neg (by omega), if_neg (by omega), if_neg (by omega)]
  congr 1; omega

theorem ref_f (n : Int) (h : n ≤ 3000) : siskinref13_Within.f 30000 n = some (pw n) := by
  by_cases a : n ≤ 2
  · exact ref_small n a 29984
  · obtain ⟨m, rfl⟩ : ∃ m : Nat, n = (m + 3 : Nat) := ⟨(n - 3).toNat, by omega⟩
    have := ref_great m (by omega) (30000 - 8 - 8 * m)
    rw [show 30000 - 8 - 8 * m + 1 + 8 * m + 7 = 30000 from by omega] at this
    exact this

theorem works_true : siskinlaw13_works.f 30000 = some true := by
  unfold siskinlaw13_works.f
  rw [pace_f 4 (by omega) 29996, pace_f 5 (by omega) 29996]
  rfl

theorem PaceWithin : siskinlaw13_PaceWithin.Pure := by
  intro n hn
  refine ⟨30000, ?_⟩
  unfold siskinlaw13_PaceWithin.f
  have hw : -9223372036854775808 ≤ n ∧ n ≤ 9223372036854775807 := by
    simp [Lit.wf, IntKind.min, IntKind.max, IntKind.signed, IntKind.bits] at hn
    exact hn
  by_cases a : n ≤ 3000
  · rw [if_pos a, pace_f n (by omega) 29996, ref_f n a, works_true]
    simp
  · rw [if_neg a, ref_f 10 (by omega)]
    by_cases b : n > 1048576
    · rw [if_pos b, pace_f 1048576 (by omega) 29996, works_true]
      decide +kernel
    · rw [if_neg b, pace_f n (by omega) 29996, works_true]
      simp only [Option.bind_some]
      rw [w64 (x := n - 10) (by omega) (by omega), w64 (x := 8 * (n - 10)) (by omega) (by omega), show pw 10 = 63 from by decide, w64 (by omega) (by omega), if_pos]
      unfold pw
      rw [if_neg (by omega), if_neg (by omega), if_neg (by omega)]
      omega

end Go.Proofs.Ytckjliikaocifaa.Pure
