/- What seen.Take and the reference's Take come to, at any gate whose Last is at least 0. -/
import Derived.Test.YtckjliikaocifaaGSeenx2
import Derived.Test.YtckjliikaocifaaGSeenx3
namespace Go.Proofs.Ytckjliikaocifaa.Seen
open Go.RowKit Go.Proofs.Ytckjliikaocifaa.GSeen Go.Proofs.YtckjliikaocifaaW.PrintWords Go.Proofs.YtckjliikaocifaaW.PrintLast

theorem w64 {x : Int} (h : -9223372036854775808 ≤ x) (h' : x ≤ 9223372036854775807) : wrap64 x = x := by
  unfold wrap64
  omega

/-- the peer's incarnation, and the last number, behind Learn -/
def lp (p i : Int) : Int := if i > p then i else p
def ll (p l i : Int) : Int := if i > p then 0 else l
/-- what Take comes to -/
def T (m p l i e s : Int) : Int × Int × Int × Int :=
  if i < p then (m, p, l, 0)
  else if e < m then (m, lp p i, ll p l i, 3)
  else if e > m then (m, lp p i, ll p l i, 0)
  else if s = ll p l i + 1 then (m, lp p i, s, 1)
  else if 1 ≤ s ∧ s ≤ ll p l i then (m, lp p i, ll p l i, 2)
  else (m, lp p i, ll p l i, 0)

theorem learn (m p l i : Int) : seen_Learn.f m p l i = some (m, lp p i, ll p l i) := by
  unfold seen_Learn.f lp ll
  split <;> rfl
theorem ref_learn (m p l i : Int) : siskinref25_Learn.f m p l i = some (m, lp p i, ll p l i) := by
  unfold siskinref25_Learn.f lp ll
  split <;> rfl

theorem j0_old (m p l s : Int) : Ev (fun k => seen_Take.j0 k s true m p l) (m, p, l, 2) := by
  refine Ev.step (fun k => ?_) (Ev.now _)
  simp only [seen_Take.j0]
  rw [if_pos trivial]
theorem j0_fresh (m p l s : Int) (hl : 0 ≤ l) (hs : s ≤ 9223372036854775807) (h : s = l + 1) : Ev (fun k => seen_Take.j0 k s false m p l) (m, p, s, 1) := by
  refine Ev.step (fun k => ?_) (Ev.now _)
  simp only [seen_Take.j0]
  rw [if_neg (by decide), w64 (by omega) (by omega), if_pos (by omega), if_neg (by omega)]
theorem j0_drop (m p l s : Int) (hl : 0 ≤ l) (hs : -9223372036854775808 ≤ s) (hs' : s ≤ 9223372036854775807) (h : ¬ s = l + 1) : Ev (fun k => seen_Take.j0 k s false m p l) (m, p, l, 0) := by
  refine Ev.step (fun k => ?_) (Ev.now _)
  simp only [seen_Take.j0]
  rw [if_neg (by decide)]
  by_cases a : wrap64 (s - 1) = l
  · have b : s < 1 := by
      by_cases c : s < 1
      · exact c
      · rw [w64 (by omega) (by omega)] at a
        omega
    rw [if_pos a, if_pos b, if_pos (by omega)]
  · rw [if_neg a]

theorem ll_in (p l i : Int) (hl : 0 ≤ l) (hl' : l ≤ 9223372036854775807) : 0 ≤ ll p l i ∧ ll p l i ≤ 9223372036854775807 := by
  unfold ll
  split <;> omega

theorem take_ev (m p l i e s : Int) (hl : 0 ≤ l) (hl' : l ≤ 9223372036854775807) (hs : -9223372036854775808 ≤ s) (hs' : s ≤ 9223372036854775807) :
    Ev (fun k => seen_Take.f k m p l i e s) (T m p l i e s) := by
  have hi := ll_in p l i hl hl'
  unfold seen_Take.f T
  rw [learn]
  simp only [Option.bind_some]
  by_cases a : i < p
  · simp only [a, if_true]
    exact Ev.now _
  · simp only [a, if_false]
    by_cases b : e < m
    · simp only [b, if_true]
      exact Ev.now _
    · simp only [b, if_false]
      by_cases c : e > m
      · simp only [c, if_true]
        exact Ev.now _
      · simp only [c, if_false]
        by_cases d : s = ll p l i + 1
        · simp only [if_pos d]
          have h := j0_fresh m (lp p i) (ll p l i) s hi.1 hs' d
          by_cases f : s ≥ 1
          · simp only [f, if_true]
            rw [decide_eq_false (by omega)]
            exact h
          · simp only [f, if_false]
            exact h
        · simp only [if_neg d]
          by_cases f : s ≥ 1
          · simp only [f, if_true]
            by_cases g : s ≤ ll p l i
            · rw [if_pos ⟨trivial, g⟩, decide_eq_true g]
              exact j0_old _ _ _ _
            · rw [if_neg (fun x => g x.2), decide_eq_false g]
              exact j0_drop _ _ _ _ hi.1 hs hs' d
          · simp only [f, if_false]
            rw [if_neg (fun x => x.1)]
            exact j0_drop _ _ _ _ hi.1 hs hs' d

theorem r0_fresh (m p l s : Int) : Ev (fun k => siskinref25_Take.j0 k s true m p l) (m, p, s, 1) := by
  refine Ev.step (fun k => ?_) (Ev.now _)
  simp only [siskinref25_Take.j0]
  rw [if_pos trivial]
theorem r0_else (m p l s : Int) : Ev (fun k => siskinref25_Take.j0 k s false m p l) (if 1 ≤ s ∧ s ≤ l then (m, p, l, 2) else (m, p, l, 0)) := by
  refine Ev.step (fun k => ?_) (Ev.now _)
  simp only [siskinref25_Take.j0]
  rw [if_neg (by decide)]
  by_cases a : s ≥ 1
  · rw [if_pos a]
    by_cases b : s ≤ l
    · rw [if_pos b, if_pos ⟨a, b⟩]
    · rw [if_neg b, if_neg (fun x => b x.2)]
  · rw [if_neg a, if_neg (fun x => a x.1)]

theorem ref_ev (m p l i e s : Int) (hl : 0 ≤ l) (hl' : l ≤ 9223372036854775807) (hs' : s ≤ 9223372036854775807) :
    Ev (fun k => siskinref25_Take.f k m p l i e s) (T m p l i e s) := by
  have hi := ll_in p l i hl hl'
  unfold siskinref25_Take.f T
  rw [ref_learn]
  simp only [Option.bind_some]
  by_cases a : i < p
  · simp only [a, if_true]
    exact Ev.now _
  · simp only [a, if_false]
    by_cases b : e < m
    · simp only [b, if_true]
      exact Ev.now _
    · simp only [b, if_false]
      by_cases c : e > m
      · simp only [c, if_true]
        exact Ev.now _
      · simp only [c, if_false]
        by_cases g : ll p l i < 9223372036854775807
        · simp only [g, if_true]
          rw [w64 (by omega) (by omega)]
          by_cases d : s = ll p l i + 1
          · rw [if_pos d, beq_iff_eq.2 d]
            exact r0_fresh _ _ _ _
          · rw [if_neg d, beq_eq_false_iff_ne.2 d]
            exact r0_else _ _ _ _
        · simp only [g, if_false]
          rw [if_neg (by omega)]
          exact r0_else _ _ _ _

theorem works_ev : Ev (fun k => siskinlaw25_works.f k) true := Ev.of siskinlaw25_works.mono (k := 5) (by decide +kernel)

theorem i64_of {x : Int} (h : (Lit.int .i64 x).wf = true) : -9223372036854775808 ≤ x ∧ x ≤ 9223372036854775807 := by
  simp [Lit.wf, IntKind.min, IntKind.max, IntKind.signed, IntKind.bits] at h
  exact h

end Go.Proofs.Ytckjliikaocifaa.Seen
