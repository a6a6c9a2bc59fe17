/- What pace.Check and pace.Tick, and the reference's, come to, at any pace; no conditions. -/
import Derived.Test.YtckjliikaocifaaGPacex3
import Derived.Test.YtckjliikaocifaaPurePaceWithin
namespace Go.Proofs.Ytckjliikaocifaa.Pure
open Go.RowKit Go.Proofs.Ytckjliikaocifaa.GPace Go.Proofs.YtckjliikaocifaaW.PrintWords Go.Proofs.YtckjliikaocifaaW.PrintLast

/-- may it be? -/
def chk (w l : Int) : Bool := decide ((w = 1 ∨ w = 2 ∨ w = 4 ∨ w = 8) ∧ 0 ≤ l ∧ l ≤ w)
theorem chk_iff {w l : Int} : chk w l = true ↔ (w = 1 ∨ w = 2 ∨ w = 4 ∨ w = 8) ∧ 0 ≤ l ∧ l ≤ w := by unfold chk; exact decide_eq_true_iff

theorem check_in (w l : Int) (b : Bool) (hb : (Go.bits .and .i64 w (wrap64 (w - 1)) == 0) = b) (h1 : 1 ≤ w) (h8 : w ≤ 8) (hw : b = decide (w = 1 ∨ w = 2 ∨ w = 4 ∨ w = 8)) : pace_Check.f w l = some (chk w l) := by
  unfold pace_Check.f
  rw [if_neg (by omega), if_neg (by omega), hb, hw]
  by_cases a : l < 0
  · rw [if_pos a]
    have : chk w l = false := by unfold chk; exact decide_eq_false (by omega)
    rw [this]
  · rw [if_neg a]
    by_cases c : l > w
    · rw [if_pos c]
      have : chk w l = false := by unfold chk; exact decide_eq_false (by omega)
      rw [this]
    · rw [if_neg c]
      congr 1
      unfold chk
      rw [decide_eq_decide]
      omega

theorem pace_check (w l : Int) : pace_Check.f w l = some (chk w l) := by
  by_cases h1 : w < 1
  · have : chk w l = false := by unfold chk; exact decide_eq_false (by omega)
    unfold pace_Check.f
    rw [if_pos h1, this]
  · by_cases h8 : w > 8
    · have : chk w l = false := by unfold chk; exact decide_eq_false (by omega)
      unfold pace_Check.f
      rw [if_neg h1, if_pos h8, this]
    · have : w = 1 ∨ w = 2 ∨ w = 3 ∨ w = 4 ∨ w = 5 ∨ w = 6 ∨ w = 7 ∨ w = 8 := by omega
      rcases this with rfl | rfl | rfl | rfl | rfl | rfl | rfl | rfl
      · exact check_in 1 l true (by decide +kernel) (by omega) (by omega) (by decide)
      · exact check_in 2 l true (by decide +kernel) (by omega) (by omega) (by decide)
      · exact check_in 3 l false (by decide +kernel) (by omega) (by omega) (by decide)
      · exact check_in 4 l true (by decide +kernel) (by omega) (by omega) (by decide)
      · exact check_in 5 l false (by decide +kernel) (by omega) (by omega) (by decide)
      · exact check_in 6 l false (by decide +kernel) (by omega) (by omega) (by decide)
      · exact check_in 7 l false (by decide +kernel) (by omega) (by omega) (by decide)
      · exact check_in 8 l true (by decide +kernel) (by omega) (by omega) (by decide)

theorem ref_check (w l : Int) : siskinref13_Check.f w l = some (chk w l) := by
  unfold siskinref13_Check.f chk
  by_cases h1 : w = 1
  · subst h1; rw [if_pos rfl]
    by_cases a : l ≥ 0
    · rw [if_pos a]; congr 1; rw [decide_eq_decide]; omega
    · rw [if_neg a]; congr 1; exact (decide_eq_false (by omega)).symm
  · rw [if_neg h1]
    by_cases h2 : w = 2
    · subst h2; rw [if_pos rfl]
      by_cases a : l ≥ 0
      · rw [if_pos a]; congr 1; rw [decide_eq_decide]; omega
      · rw [if_neg a]; congr 1; exact (decide_eq_false (by omega)).symm
    · rw [if_neg h2]
      by_cases h4 : w = 4
      · subst h4; rw [if_pos rfl]
        by_cases a : l ≥ 0
        · rw [if_pos a]; congr 1; rw [decide_eq_decide]; omega
        · rw [if_neg a]; congr 1; exact (decide_eq_false (by omega)).symm
      · rw [if_neg h4]
        by_cases h8 : w = 8
        · subst h8; rw [if_pos rfl]
          by_cases a : l ≥ 0
          · rw [if_pos a]; congr 1; rw [decide_eq_decide]; omega
          · rw [if_neg a]; congr 1; exact (decide_eq_false (by omega)).symm
        · rw [if_neg h8]; congr 1; exact (decide_eq_false (by omega)).symm

/-- what a tick comes to -/
def tk (w l : Int) : Int × Int × Bool :=
  if chk w l = true then (if l = 0 then (w, l, false) else if l > 1 then (w, l - 1, false) else if w < 8 then (2 * w, 2 * w, true) else (w, w, true)) else (1, 0, false)

theorem ref_tick (w l : Int) : siskinref13_Tick.f w l = some (tk w l) := by
  unfold siskinref13_Tick.f tk
  rw [ref_check]
  simp only [Option.bind_some]
  by_cases c : chk w l = true
  · have hc := chk_iff.1 c
    rw [if_pos c, if_pos c]
    by_cases a : l = 0
    · rw [if_pos a, if_pos a]
    · rw [if_neg a, if_neg a]
      by_cases b : l > 1
      · rw [if_pos b, if_pos b, w64 (by omega) (by omega)]
      · rw [if_neg b, if_neg b]
        by_cases d : w < 8
        · rw [if_pos d, if_pos d, w64 (by omega) (by omega)]
        · rw [if_neg d, if_neg d]
  · rw [if_neg c, if_neg c]

theorem pace_fine_f (w l : Int) : pace_fine.f w l = some (if chk w l = true then (w, l) else (1, 0)) := by
  unfold pace_fine.f
  rw [pace_check]
  simp only [Option.bind_some]
  by_cases c : chk w l = true
  · rw [if_pos c, if_pos c]
  · rw [if_neg c, if_neg c]; rfl

theorem pace_tick (w l : Int) : pace_Tick.f w l = some (tk w l) := by
  unfold pace_Tick.f tk
  rw [pace_fine_f]
  simp only [Option.bind_some]
  by_cases c : chk w l = true
  · have hc := chk_iff.1 c
    rw [if_pos c, if_pos c]
    dsimp only
    by_cases a : l = 0
    · rw [if_pos a, if_pos a]
    · rw [if_neg a, if_neg a, w64 (x := l - 1) (by omega) (by omega)]
      by_cases b : l > 1
      · rw [if_pos (by omega), if_pos b]
      · rw [if_neg (by omega), if_neg b, w64 (x := 2 * w) (by omega) (by omega)]
        by_cases d : w < 8
        · rw [if_pos d]
          have : mn (2 * w) 8 = 2 * w := by unfold mn; rw [if_neg (by omega)]
          rw [this]
        · rw [if_neg d]
          have : mn (2 * w) 8 = w := by unfold mn; rw [if_pos (by omega)]; omega
          rw [this]
  · rw [if_neg c, if_neg c]
    rfl

theorem start_f (w l : Int) : pace_Start.f w l = some (1, 1) := rfl

end Go.Proofs.Ytckjliikaocifaa.Pure
