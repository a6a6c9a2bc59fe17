/- For every pace and every number up to 255: a valid pace stays valid, a running one tells true within its wait, and from Start on it tells true n times in Within(n) ticks; no conditions. -/
import Derived.Test.YtckjliikaocifaaGPacex3
import Derived.Test.YtckjliikaocifaaPaceBase
namespace Go.Proofs.Ytckjliikaocifaa.Pure
open Go.RowKit Go.Proofs.Ytckjliikaocifaa.GPace Go.Proofs.YtckjliikaocifaaW.PrintWords Go.Proofs.YtckjliikaocifaaW.PrintLast

/-- the next wait -/
def up (w : Int) : Int := if w < 8 then 2 * w else w
/-- how many ticks till m times are told -/
def need : Int → Int → Nat → Int
  | _, _, 0 => 0
  | w, l, m + 1 => l + need (up w) (up w) m

theorem chk_up {w l : Int} (h : chk w l = true) : chk (up w) (up w) = true := by
  have := chk_iff.1 h
  refine chk_iff.2 ?_
  unfold up
  split <;> omega
theorem tk_down {w l : Int} (h : chk w l = true) (hl : l > 1) : tk w l = (w, l - 1, false) := by
  unfold tk
  rw [if_pos h, if_neg (by omega), if_pos hl]
theorem tk_out {w : Int} (h : chk w 1 = true) : tk w 1 = (up w, up w, true) := by
  unfold tk up
  rw [if_pos h, if_neg (by omega), if_neg (by omega)]
  split <;> rfl
theorem chk_down {w l : Int} (h : chk w l = true) (hl : l ≥ 1) : chk w (l - 1) = true := by
  have := chk_iff.1 h
  exact chk_iff.2 (by omega)
theorem need_pos {w l : Int} (hc : chk w l = true) (hl : 1 ≤ l) : ∀ m : Nat, 0 ≤ need w l m ∧ (0 < m → 1 ≤ need w l m) := by
  intro m
  induction m generalizing w l with
  | zero => exact ⟨Int.le_refl 0, fun h => absurd h (Nat.lt_irrefl 0)⟩
  | succ m ih =>
    have hu := chk_up hc
    have hu1 := chk_iff.1 hu
    have := (ih hu (by omega)).1
    simp only [need]
    omega

theorem needs_8 (m : Nat) : need 8 8 m = 8 * m := by
  induction m with
  | zero => rfl
  | succ m ih =>
    simp only [need]
    rw [show up 8 = 8 from by decide, ih]
    omega
theorem need_pw (n : Nat) : need 1 1 n = pw n := by
  match n with
  | 0 => rfl
  | 1 => rfl
  | 2 => rfl
  | m + 3 =>
    simp only [need]
    rw [show up 1 = 2 from by decide, show up 2 = 4 from by decide, show up 4 = 8 from by decide, needs_8]
    unfold pw
    rw [if_neg (by omega), if_neg (by omega), if_neg (by omega)]
    omega

theorem works_ev : Ev (fun k => siskinlaw13_works.f k) true := Ev.of siskinlaw13_works.mono works_true
theorem within_ev (n : Int) (h : n ≤ 1048576) : Ev (fun k => pace_Within.f k n) (pw n) := Ev.of (pace_Within.mono n) (pace_f n h 0)

theorem count_exit (a1 t T i w l : Int) (ha : 0 ≤ a1) (ha' : a1 ≤ 255) (ht : t = a1) : Ev (fun k => siskinlaw13_PaceGoes.j5 k a1 t T i false w l) true := by
  refine Ev.step (fun k => ?_) (Ev.bind works_ev (Ev.now true))
  simp only [siskinlaw13_PaceGoes.j5]
  rw [if_neg (by decide), w64 (by omega) (by omega), if_pos ht]

/-- the second loop -/
theorem count_loop (a1 T : Int) (ha : 0 ≤ a1) (ha' : a1 ≤ 255) (hT : T ≤ 2999) : ∀ (d : Nat) (t i w l : Int) (m : Nat), T - i = d → 0 ≤ i → 0 ≤ t → t + m = a1 → chk w l = true → 1 ≤ l → need w l m = T - i →
    Ev (fun k => siskinlaw13_PaceGoes.l1 k a1 t T i w l) true := by
  intro d
  induction d with
  | zero =>
    intro t i w l m hd hi ht htm hc hl hn
    have hm : m = 0 := by
      rcases Nat.eq_zero_or_pos m with h | h
      · exact h
      · have := (need_pos hc hl m).2 h; omega
    refine Ev.step (fun k => ?_) (count_exit a1 t T i w l ha ha' (by omega))
    simp only [siskinlaw13_PaceGoes.l1]
    rw [if_neg (by omega)]
  | succ d ih =>
    intro t i w l m hd hi ht htm hc hl hn
    obtain ⟨m, rfl⟩ : ∃ q, m = q + 1 := by
      rcases Nat.eq_zero_or_pos m with h | h
      · subst h; simp only [need] at hn; omega
      · exact ⟨m - 1, by omega⟩
    have step : Ev (fun k => siskinlaw13_PaceGoes.j5 k a1 t T i true w l) true := by
      by_cases h1 : l > 1
      · have h := ih t (i + 1) w (l - 1) (m + 1) (by omega) (by omega) ht htm (chk_down hc hl) (by omega) (by simp only [need] at hn ⊢; omega)
        refine Ev.step (fun k => ?_) h
        simp only [siskinlaw13_PaceGoes.j5]
        rw [if_pos trivial, pace_tick, tk_down hc h1]
        simp only [Option.bind_some]
        rw [if_neg (by decide), w64 (x := i + 1) (by omega) (by omega)]
      · obtain rfl : l = 1 := by omega
        have hu := chk_up hc
        have hu1 := chk_iff.1 hu
        have h := ih (t + 1) (i + 1) (up w) (up w) m (by omega) (by omega) (by omega) (by omega) hu (by omega) (by simp only [need] at hn; omega)
        refine Ev.step (fun k => ?_) h
        simp only [siskinlaw13_PaceGoes.j5]
        rw [if_pos trivial, pace_tick, tk_out hc]
        simp only [Option.bind_some]
        rw [if_pos trivial, w64 (x := i + 1) (by omega) (by omega), w64 (x := t + 1) (by omega) (by omega)]
    refine Ev.step (fun k => ?_) step
    simp only [siskinlaw13_PaceGoes.l1]
    rw [if_pos (by omega), decide_eq_true (by omega : i < 3000)]

theorem second (a1 w l : Int) (ha : 0 ≤ a1) (ha' : a1 ≤ 255) : Ev (fun k => siskinlaw13_PaceGoes.j3 k a1 w l) true := by
  obtain ⟨n, rfl⟩ := Int.eq_ofNat_of_zero_le ha
  have hw := within_ev (n : Int) (by omega)
  have hn := need_pw n
  have hp : pw n ≤ 2999 ∧ 0 ≤ pw n := by
    unfold pw
    split
    · omega
    · split
      · omega
      · split <;> omega
  have h := count_loop n (pw n) ha ha' hp.1 (pw n).toNat 0 0 1 1 n (by omega) (by omega) (by omega) (by omega) (by decide) (by omega) (by omega)
  refine Ev.step (f := fun k => (pace_Within.f k n).bind fun t146 => siskinlaw13_PaceGoes.l1 k n 0 t146 0 1 1) (fun k => ?_) (Ev.bind hw h)
  simp only [siskinlaw13_PaceGoes.j3]
  rw [start_f, w64 (x := (n : Int)) (by omega) (by omega)]
  rfl

/-- the first loop: it has told -/
theorem told (a1 W i w l : Int) (ha : 0 ≤ a1) (ha' : a1 ≤ 255) : Ev (fun k => siskinlaw13_PaceGoes.l0 k a1 true W i w l) true := by
  have h : Ev (fun k => siskinlaw13_PaceGoes.j2 k a1 true W i false w l) true := by
    refine Ev.step (fun k => ?_) (second a1 w l ha ha')
    simp only [siskinlaw13_PaceGoes.j2]
    rw [if_neg (by decide), if_pos trivial]
  refine Ev.step (fun k => ?_) h
  simp only [siskinlaw13_PaceGoes.l0]
  by_cases a : i < W
  · rw [if_pos a]
    by_cases b : i < 8
    · rw [if_pos b]; rfl
    · rw [if_neg b]
  · rw [if_neg a]

theorem first_loop (a1 w : Int) (ha : 0 ≤ a1) (ha' : a1 ≤ 255) : ∀ (d : Nat) (i l : Int), l = d + 1 → 0 ≤ i → i + l ≤ w → chk w l = true → Ev (fun k => siskinlaw13_PaceGoes.l0 k a1 false w i w l) true := by
  intro d
  induction d with
  | zero =>
    intro i l hl hi hil hc
    obtain rfl : l = 1 := by omega
    have hc' := chk_iff.1 hc
    refine Ev.step (f := fun k => siskinlaw13_PaceGoes.j2 k a1 false w i true w 1) (fun k => ?_) ?_
    · simp only [siskinlaw13_PaceGoes.l0]
      rw [if_pos (by omega), if_pos (by omega)]
      rfl
    · refine Ev.step (fun k => ?_) (told a1 w (i + 1) (up w) (up w) ha ha')
      simp only [siskinlaw13_PaceGoes.j2]
      rw [if_pos trivial, pace_tick, tk_out hc]
      simp only [Option.bind_some]
      rw [pace_check, chk_up hc]
      simp only [Option.bind_some]
      rw [if_pos trivial, w64 (x := i + 1) (by omega) (by omega)]
  | succ d ih =>
    intro i l hl hi hil hc
    have hc' := chk_iff.1 hc
    refine Ev.step (f := fun k => siskinlaw13_PaceGoes.j2 k a1 false w i true w l) (fun k => ?_) ?_
    · simp only [siskinlaw13_PaceGoes.l0]
      rw [if_pos (by omega), if_pos (by omega)]
      rfl
    · refine Ev.step (fun k => ?_) (ih (i + 1) (l - 1) (by omega) (by omega) (by omega) (chk_down hc (by omega)))
      simp only [siskinlaw13_PaceGoes.j2]
      rw [if_pos trivial, pace_tick, tk_down hc (by omega)]
      simp only [Option.bind_some]
      rw [pace_check, chk_down hc (by omega)]
      simp only [Option.bind_some]
      rw [if_pos trivial, w64 (x := i + 1) (by omega) (by omega)]

theorem PaceGoes : siskinlaw13_PaceGoes.Pure := by
  intro w l a1 _ h8
  have hb : 0 ≤ a1 ∧ a1 ≤ 255 := by
    simp [Lit.wf, IntKind.min, IntKind.max, IntKind.signed, IntKind.bits] at h8
    omega
  have skip : ∀ w l, Ev (fun k => siskinlaw13_PaceGoes.j0 k a1 false w l) true := by
    intro w l
    refine Ev.step (fun k => ?_) (second a1 w l hb.1 hb.2)
    simp only [siskinlaw13_PaceGoes.j0]
    rw [if_neg (by decide)]
  refine Ev.rounds ?_
  unfold siskinlaw13_PaceGoes.f
  rw [pace_check]
  simp only [Option.bind_some]
  by_cases c : chk w l = true
  · simp only [c, if_true]
    by_cases hl : l > 0
    · simp only [hl, decide_true]
      have hc := chk_iff.1 c
      refine Ev.step (fun k => ?_) (first_loop a1 w hb.1 hb.2 (l - 1).toNat 0 l (by omega) (by omega) (by omega) c)
      simp only [siskinlaw13_PaceGoes.j0]
      rw [if_pos trivial]
    · simp only [hl, decide_false]
      exact skip w l
  · simp only [c]
    exact skip w l

end Go.Proofs.Ytckjliikaocifaa.Pure
