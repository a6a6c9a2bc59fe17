/- The ear: what the program's and the document's functions come to. -/
import Derived.Test.YtnobgooojbppbaaTB
import Derived.Test.YtnobgooojbppbaaBase
set_option linter.all false
set_option maxRecDepth 100000
set_option maxHeartbeats 1000000
namespace Go.Proofs.Ytnobgooojbppbaa.Beat
open Go Go.RowKit Go.Proofs.Ytnobgooojbppbaa.Lift Go.Proofs.Ytnobgooojbppbaa.TB Go.Proofs.Ytnobgooojbppbaa.Base

abbrev eI : Int → List AV := eInt .i64
theorem eI_ne {a b : Int} (h : ¬ a = b) : ¬ a = b := h

theorem F_clo (l : List Int) (hl : l.length ≤ 1000000) : F T 105 [.ro 1 (enc (eInt .i64) l) false] [] = some (.own 0 0 l.length, [⟨3, 1, false, enc (eInt .i64) l, 0⟩]) :=
  F_cloneE T105 rfl (.inl rfl) (by omega) (by omega)

theorem EQU_loop (l m : List Int) (hl : l.length ≤ 140737488355328) (hlm : l.length = m.length) :
    ∀ (k i : Nat) (st : ASt), i + k = l.length → canon [0, 1, 12, 13] st = ⟨[.ro 1 (enc (eInt .i64) l) false, .ro 1 (enc (eInt .i64) m) false, .top, .top, .top, .top, .top, .top, .top, .top, .top, .top, .int .i64 l.length, .int .i64 i, .top, .top, .top, .top, .top, .top, .top, .top, .top, .top, .top, .top], [], 0, 0⟩ → W T c107_k0 st (Lift.Fin c107 (.bool (decide (l.drop i = m.drop i)), [])) := by
  intro k
  induction k with
  | zero =>
    intro i st hi hc
    have h1 : ¬ i < l.length := by omega
    have e1 : l.drop i = [] := List.drop_of_length_le (by omega)
    have e2 : m.drop i = [] := List.drop_of_length_le (by omega)
    unfold c107_k0
    refine W_exit (by rw [hc]; simp (maxSteps := 2000000) [c107_l0, h1]; with_reducible rfl) ?_
    exact W_fin (ex := .ret) (by simp (maxSteps := 2000000); with_reducible rfl) (by simp) (by first | (simp [c107, e1, e2]; done) | (simp [c107, e1, e2]; with_reducible rfl))
  | succ k ih =>
    intro i st hi hc
    have hlt : i < l.length := by omega
    have hlt2 : i < m.length := by omega
    have hw := wrapS i _ hlt hl
    have d1 := List.drop_eq_getElem_cons hlt
    have d2 := List.drop_eq_getElem_cons hlt2
    unfold c107_k0
    by_cases he : l[i] = m[i]
    · rw [d1, d2, he]
      simp only [List.cons.injEq, true_and]
      refine W_next (by rw [hc]; simp (maxSteps := 2000000) [c107_l0, hlt, hlt2, hw, he, eqCs, hlm]; with_reducible rfl) ?_
      exact ih (i + 1) _ (by omega) (by simp [hlm])
    · have hd : decide (l.drop i = m.drop i) = false := by
        rw [decide_eq_false_iff_not, d1, d2]; intro e; injection e with e _; exact he e
      rw [hd]
      exact W_ret (by rw [hc]; simp (maxSteps := 2000000) [c107_l0, hlt, hlt2, he, hlm]; with_reducible rfl) (Fin_ret (by simp [c107]))

theorem F_EQU (l m : List Int) (hl : l.length ≤ 1000000) (hm : m.length ≤ 1000000) : F T 107 [.ro 1 (enc (eInt .i64) l) false, .ro 1 (enc (eInt .i64) m) false] [] = some (.bool (decide (l = m)), []) := by
  refine F_W T107 ?_
  by_cases h : l.length = m.length
  · simp only [c107, c107_b, Lift.start]
    repeat (first | refine W_assoc ?_ | refine W_go (a := .region _ _) (by simp (maxSteps := 2000000) [h]; with_reducible rfl) ?_ | refine W_go (a := .cond _ _ _) (by simp (maxSteps := 2000000) [h]; with_reducible rfl) ?_ | refine W_go (a := .block _ (.seq _ _)) (by simp (maxSteps := 2000000) [h]; with_reducible rfl) ?_)
    have := EQU_loop l m (by omega) h l.length 0
    simp only [List.drop_zero] at this
    exact this _ (by simp) (by simp [h])
  · have h1 : decide (l = m) = false := by
      rw [decide_eq_false_iff_not]; intro e; exact h (by rw [e])
    have h2 : ¬ (l.length : Int) = (m.length : Int) := by omega
    rw [h1]
    exact W_fin (ex := .ret) (by simp (maxSteps := 2000000) [c107, c107_b, h2, h]; with_reducible rfl) (by simp) (by first | (simp [c107]; done) | (simp [c107]; with_reducible rfl))

theorem R06_Same_loop (l m : List Int) (hl : l.length ≤ 140737488355328) (hlm : l.length = m.length) :
    ∀ (k i : Nat) (st : ASt), i + k = l.length → canon [0, 1, 5] st = ⟨[.ro 1 (enc (eInt .i64) l) false, .ro 1 (enc (eInt .i64) m) false, .top, .top, .top, .int .i64 i, .top, .top, .top, .top, .top, .top, .top, .top, .top, .top, .top, .top, .top, .top, .top, .top, .top, .top, .top, .top], [], 0, 0⟩ → W T c26_k0 st (Lift.Fin c26 (.bool (decide (l.drop i = m.drop i)), [])) := by
  intro k
  induction k with
  | zero =>
    intro i st hi hc
    have h1 : ¬ i < l.length := by omega
    have e1 : l.drop i = [] := List.drop_of_length_le (by omega)
    have e2 : m.drop i = [] := List.drop_of_length_le (by omega)
    unfold c26_k0
    refine W_exit (by rw [hc]; simp (maxSteps := 2000000) [c26_l0, h1]; with_reducible rfl) ?_
    exact W_fin (ex := .ret) (by simp (maxSteps := 2000000); with_reducible rfl) (by simp) (by first | (simp [c26, e1, e2]; done) | (simp [c26, e1, e2]; with_reducible rfl))
  | succ k ih =>
    intro i st hi hc
    have hlt : i < l.length := by omega
    have hlt2 : i < m.length := by omega
    have hw := wrapS i _ hlt hl
    have d1 := List.drop_eq_getElem_cons hlt
    have d2 := List.drop_eq_getElem_cons hlt2
    unfold c26_k0
    by_cases he : l[i] = m[i]
    · rw [d1, d2, he]
      simp only [List.cons.injEq, true_and]
      refine W_next (by rw [hc]; simp (maxSteps := 2000000) [c26_l0, hlt, hlt2, hw, he, eqCs, hlm]; with_reducible rfl) ?_
      exact ih (i + 1) _ (by omega) (by simp [hlm])
    · have hd : decide (l.drop i = m.drop i) = false := by
        rw [decide_eq_false_iff_not, d1, d2]; intro e; injection e with e _; exact he e
      rw [hd]
      exact W_ret (by rw [hc]; simp (maxSteps := 2000000) [c26_l0, hlt, hlt2, he, hlm]; with_reducible rfl) (Fin_ret (by simp [c26]))

theorem F_R06_Same (l m : List Int) (hl : l.length ≤ 1000000) (hm : m.length ≤ 1000000) : F T 26 [.ro 1 (enc (eInt .i64) l) false, .ro 1 (enc (eInt .i64) m) false] [] = some (.bool (decide (l = m)), []) := by
  refine F_W T26 ?_
  by_cases h : l.length = m.length
  · simp only [c26, c26_b, Lift.start]
    repeat (first | refine W_assoc ?_ | refine W_go (a := .region _ _) (by simp (maxSteps := 2000000) [h]; with_reducible rfl) ?_ | refine W_go (a := .cond _ _ _) (by simp (maxSteps := 2000000) [h]; with_reducible rfl) ?_ | refine W_go (a := .block _ (.seq _ _)) (by simp (maxSteps := 2000000) [h]; with_reducible rfl) ?_)
    have := R06_Same_loop l m (by omega) h l.length 0
    simp only [List.drop_zero] at this
    exact this _ (by simp) (by simp [h])
  · have h1 : decide (l = m) = false := by
      rw [decide_eq_false_iff_not]; intro e; exact h (by rw [e])
    have h2 : ¬ (l.length : Int) = (m.length : Int) := by omega
    rw [h1]
    exact W_fin (ex := .ret) (by simp (maxSteps := 2000000) [c26, c26_b, h2, h]; with_reducible rfl) (by simp) (by first | (simp [c26]; done) | (simp [c26]; with_reducible rfl))


/-- One tick. -/
def tk (le x : Int) : Int := if x < le then IntKind.i64.wrap (x + 1) else x

theorem tick_loop (s le : Int) (n : Nat) (hn : n ≤ 1000000) :
    ∀ (k i : Nat) (r : List Int) (st : ASt), i + k = n → r.length = n → canon [1, 2, 10, 11] st = ⟨[.top, .ref 0 0 0, .ref 1 0 0, .top, .top, .top, .top, .top, .top, .top, .int .i64 n, .int .i64 i, .top, .top, .top, .top, .top, .top, .top, .top, .top, .top, .top, .top, .top, .top, .top, .top, .top, .top, .top], [(0, ⟨28, 3, true, [[.int .i64 s, .int .i64 le, .own 2 0 n]], 0⟩), (1, ⟨28, 3, true, [[.int .i64 0, .int .i64 0, .ro 1 [] true]], 0⟩), (2, ⟨3, 1, false, enc (eInt .i64) r, 0⟩)], 3, 0⟩ →
      W T c16_k0 st (Lift.Fin c16 (.agg [.int .i64 s, .int .i64 le, .own 0 0 n], [⟨3, 1, false, enc (eInt .i64) (r.take i ++ (r.drop i).map (tk le)), 0⟩])) := by
  intro k
  induction k with
  | zero =>
    intro i r st hi hr hc
    have h1 : ¬ i < n := by omega
    have e1 : r.drop i = [] := List.drop_of_length_le (by omega)
    have e2 : r.take i = r := List.take_of_length_le (by omega)
    unfold c16_k0
    refine W_round hc ?_
    unfold c16_l0
    repeat (first | refine W_assoc ?_ | (show W _ (.seq (.region _ _) _) _ _; refine W_reg (by simp; with_reducible rfl) ?_) | (show R _ _ _ (_ :: _) _ _ _ _; refine R_op (by simp (maxSteps := 2000000) [h1, hr]; with_reducible rfl) ?_) | (show R _ _ _ [] _ _ _ _; refine R_nil (by simp; with_reducible rfl) ?_) | (show W _ (.seq (.cond _ _ _) _) _ _; first | refine W_ct (by first | (simp [h1, hr]; done) | fail) ?_ | refine W_cf (by first | (simp [h1, hr]; done) | fail) ?_) | refine W_skip ?_ | refine W_bl (c := .seq _ _) ?_ | refine W_bl (c := .region _ _) ?_ | refine W_bl (c := .cond _ _ _) ?_ | refine W_bl (c := .block _ _) ?_ | refine W_rt ?_ | refine W_ex ?_ | refine W_end ?_ | refine W_tail (a := .region _ _) ?_ | refine W_tail (a := .cond _ _ _) ?_ | refine W_tail (a := .ret) ?_ | refine W_tail (a := .exit _) ?_ | refine W_tail (a := .block _ _) ?_ | refine QB_normal ?_ | refine QB_exit ?_ | refine QB_ret ?_ | refine QB_out (by decide) ?_ | refine QL_next ?_ | refine QL_exit ?_ | refine QL_ret ?_ | refine QL_out (by decide) ?_ | (show Fin _ _ .ret _; exact Fin_ret (by first | (simp [c16, e1, e2, hr]; done) | (simp [c16, e1, e2, hr]; with_reducible rfl))) | (show Fin _ _ .normal _; exact Fin_end (by first | (simp [c16, e1, e2, hr]; done) | (simp [c16, e1, e2, hr]; with_reducible rfl))))
  | succ k ih =>
    intro i r st hi hr hc
    have hlt : i < n := by omega
    have hlr : i < r.length := by omega
    have hw := wrapS i _ hlt (by omega)
    unfold c16_k0
    by_cases he : r[i] < le
    · have hm : tk le r[i] = IntKind.i64.wrap (r[i] + 1) := by simp [tk, he]
      rw [← mut_step (tk le) r i hlr, hm]
      refine W_round hc ?_
      unfold c16_l0
      repeat (first | refine W_assoc ?_ | (show W _ (.seq (.region _ _) _) _ _; refine W_reg (by simp; with_reducible rfl) ?_) | (show R _ _ _ (_ :: _) _ _ _ _; refine R_op (by simp (maxSteps := 2000000) [hlt, hlr, hw, he, hr]; with_reducible rfl) ?_) | (show R _ _ _ [] _ _ _ _; refine R_nil (by simp; with_reducible rfl) ?_) | (show W _ (.seq (.cond _ _ _) _) _ _; first | refine W_ct (by first | (simp [hlt, hlr, hw, he, hr]; done) | fail) ?_ | refine W_cf (by first | (simp [hlt, hlr, hw, he, hr]; done) | fail) ?_) | refine W_skip ?_ | refine W_bl (c := .seq _ _) ?_ | refine W_bl (c := .region _ _) ?_ | refine W_bl (c := .cond _ _ _) ?_ | refine W_bl (c := .block _ _) ?_ | refine W_rt ?_ | refine W_ex ?_ | refine W_end ?_ | refine W_tail (a := .region _ _) ?_ | refine W_tail (a := .cond _ _ _) ?_ | refine W_tail (a := .ret) ?_ | refine W_tail (a := .exit _) ?_ | refine W_tail (a := .block _ _) ?_ | refine QB_normal ?_ | refine QB_exit ?_ | refine QB_ret ?_ | refine QB_out (by decide) ?_ | refine QL_next ?_ | refine QL_exit ?_ | refine QL_ret ?_ | refine QL_out (by decide) ?_ | (show Fin _ _ .ret _; exact Fin_ret (by first | (simp; done) | (simp; with_reducible rfl))) | (show Fin _ _ .normal _; exact Fin_end (by first | (simp; done) | (simp; with_reducible rfl))))
      exact ih (i + 1) _ _ (by omega) (by simp [hr]) (by simp; try rfl)
    · have hm : tk le r[i] = r[i] := by simp [tk, he]
      rw [← mut_skip (tk le) r i hlr hm]
      refine W_round hc ?_
      unfold c16_l0
      repeat (first | refine W_assoc ?_ | (show W _ (.seq (.region _ _) _) _ _; refine W_reg (by simp; with_reducible rfl) ?_) | (show R _ _ _ (_ :: _) _ _ _ _; refine R_op (by simp (maxSteps := 2000000) [hlt, hlr, hw, he, hr]; with_reducible rfl) ?_) | (show R _ _ _ [] _ _ _ _; refine R_nil (by simp; with_reducible rfl) ?_) | (show W _ (.seq (.cond _ _ _) _) _ _; first | refine W_ct (by first | (simp [hlt, hlr, hw, he, hr]; done) | fail) ?_ | refine W_cf (by first | (simp [hlt, hlr, hw, he, hr]; done) | fail) ?_) | refine W_skip ?_ | refine W_bl (c := .seq _ _) ?_ | refine W_bl (c := .region _ _) ?_ | refine W_bl (c := .cond _ _ _) ?_ | refine W_bl (c := .block _ _) ?_ | refine W_rt ?_ | refine W_ex ?_ | refine W_end ?_ | refine W_tail (a := .region _ _) ?_ | refine W_tail (a := .cond _ _ _) ?_ | refine W_tail (a := .ret) ?_ | refine W_tail (a := .exit _) ?_ | refine W_tail (a := .block _ _) ?_ | refine QB_normal ?_ | refine QB_exit ?_ | refine QB_ret ?_ | refine QB_out (by decide) ?_ | refine QL_next ?_ | refine QL_exit ?_ | refine QL_ret ?_ | refine QL_out (by decide) ?_ | (show Fin _ _ .ret _; exact Fin_ret (by first | (simp; done) | (simp; with_reducible rfl))) | (show Fin _ _ .normal _; exact Fin_end (by first | (simp; done) | (simp; with_reducible rfl))))
      exact ih (i + 1) _ _ (by omega) (by simp [hr]) (by simp; try rfl)

theorem F_tick (l : List Int) (hl : l.length ≤ 1000000) (s le : Int) : F T 16 [.agg [.int .i64 s, .int .i64 le, .ro 1 (enc (eInt .i64) l) false]] [] =
    some (.agg [.int .i64 s, .int .i64 le, .own 0 0 l.length], [⟨3, 1, false, enc (eInt .i64) (l.map (tk le)), 0⟩]) := by
  have h2 := F_clo l hl
  refine F_W T16 ?_
  simp only [c16, c16_b, Lift.start]
  repeat (first | refine W_assoc ?_ | (show W _ (.seq (.region _ _) _) _ _; refine W_reg (by simp; with_reducible rfl) ?_) | (show R _ _ _ (_ :: _) _ _ _ _; refine R_op (by simp (maxSteps := 2000000) [h2]; with_reducible rfl) ?_) | (show R _ _ _ [] _ _ _ _; refine R_nil (by simp; with_reducible rfl) ?_) | (show W _ (.seq (.cond _ _ _) _) _ _; first | refine W_ct (by first | (simp [h2]; done) | fail) ?_ | refine W_cf (by first | (simp [h2]; done) | fail) ?_) | refine W_skip ?_ | refine W_bl (c := .seq _ _) ?_ | refine W_bl (c := .region _ _) ?_ | refine W_bl (c := .cond _ _ _) ?_ | refine W_bl (c := .block _ _) ?_ | refine W_rt ?_ | refine W_ex ?_ | refine W_end ?_ | refine W_tail (a := .region _ _) ?_ | refine W_tail (a := .cond _ _ _) ?_ | refine W_tail (a := .ret) ?_ | refine W_tail (a := .exit _) ?_ | refine W_tail (a := .block _ _) ?_ | refine QB_normal ?_ | refine QB_exit ?_ | refine QB_ret ?_ | refine QB_out (by decide) ?_ | refine QL_next ?_ | refine QL_exit ?_ | refine QL_ret ?_ | refine QL_out (by decide) ?_ | (show Fin _ _ .ret _; exact Fin_ret (by first | (simp; done) | (simp; with_reducible rfl))) | (show Fin _ _ .normal _; exact Fin_end (by first | (simp; done) | (simp; with_reducible rfl))))
  have hz := tick_loop s le l.length hl l.length 0 l
  simp only [List.drop_zero, List.take_zero, List.nil_append] at hz
  exact hz _ (by simp) (by simp) (by simp; try rfl)

theorem F_there (l : List Int) (hl : l.length ≤ 1000000) (s le x : Int) : F T 106 [.agg [.int .i64 s, .int .i64 le, .ro 1 (enc (eInt .i64) l) false], .int .i64 x] [] = some (.bool (decide (0 ≤ x ∧ x < l.length)), []) := by
  by_cases h1 : 0 ≤ x
  · by_cases h2 : x < l.length
    · simp only [h1, h2, and_self, decide_true]
      refine F_W T106 ?_
      simp only [c106, c106_b, Lift.start]
      repeat (first | refine W_assoc ?_ | (show W _ (.seq (.region _ _) _) _ _; refine W_reg (by simp; with_reducible rfl) ?_) | (show R _ _ _ (_ :: _) _ _ _ _; refine R_op (by simp (maxSteps := 2000000) [h1, h2]; with_reducible rfl) ?_) | (show R _ _ _ [] _ _ _ _; refine R_nil (by simp; with_reducible rfl) ?_) | (show W _ (.seq (.cond _ _ _) _) _ _; first | refine W_ct (by first | (simp [h1, h2]; done) | fail) ?_ | refine W_cf (by first | (simp [h1, h2]; done) | fail) ?_) | refine W_skip ?_ | refine W_bl (c := .seq _ _) ?_ | refine W_bl (c := .region _ _) ?_ | refine W_bl (c := .cond _ _ _) ?_ | refine W_bl (c := .block _ _) ?_ | refine W_rt ?_ | refine W_ex ?_ | refine W_end ?_ | refine W_tail (a := .region _ _) ?_ | refine W_tail (a := .cond _ _ _) ?_ | refine W_tail (a := .ret) ?_ | refine W_tail (a := .exit _) ?_ | refine W_tail (a := .block _ _) ?_ | refine QB_normal ?_ | refine QB_exit ?_ | refine QB_ret ?_ | refine QB_out (by decide) ?_ | refine QL_next ?_ | refine QL_exit ?_ | refine QL_ret ?_ | refine QL_out (by decide) ?_ | (show Fin _ _ .ret _; exact Fin_ret (by first | (simp [c106]; done) | (simp [c106]; with_reducible rfl))) | (show Fin _ _ .normal _; exact Fin_end (by first | (simp [c106]; done) | (simp [c106]; with_reducible rfl))))
    · simp only [h1, h2, and_false, decide_false]
      refine F_W T106 ?_
      simp only [c106, c106_b, Lift.start]
      repeat (first | refine W_assoc ?_ | (show W _ (.seq (.region _ _) _) _ _; refine W_reg (by simp; with_reducible rfl) ?_) | (show R _ _ _ (_ :: _) _ _ _ _; refine R_op (by simp (maxSteps := 2000000) [h1, h2]; with_reducible rfl) ?_) | (show R _ _ _ [] _ _ _ _; refine R_nil (by simp; with_reducible rfl) ?_) | (show W _ (.seq (.cond _ _ _) _) _ _; first | refine W_ct (by first | (simp [h1, h2]; done) | fail) ?_ | refine W_cf (by first | (simp [h1, h2]; done) | fail) ?_) | refine W_skip ?_ | refine W_bl (c := .seq _ _) ?_ | refine W_bl (c := .region _ _) ?_ | refine W_bl (c := .cond _ _ _) ?_ | refine W_bl (c := .block _ _) ?_ | refine W_rt ?_ | refine W_ex ?_ | refine W_end ?_ | refine W_tail (a := .region _ _) ?_ | refine W_tail (a := .cond _ _ _) ?_ | refine W_tail (a := .ret) ?_ | refine W_tail (a := .exit _) ?_ | refine W_tail (a := .block _ _) ?_ | refine QB_normal ?_ | refine QB_exit ?_ | refine QB_ret ?_ | refine QB_out (by decide) ?_ | refine QL_next ?_ | refine QL_exit ?_ | refine QL_ret ?_ | refine QL_out (by decide) ?_ | (show Fin _ _ .ret _; exact Fin_ret (by first | (simp [c106]; done) | (simp [c106]; with_reducible rfl))) | (show Fin _ _ .normal _; exact Fin_end (by first | (simp [c106]; done) | (simp [c106]; with_reducible rfl))))
  · simp only [h1, false_and, decide_false]
    refine F_W T106 ?_
    simp only [c106, c106_b, Lift.start]
    repeat (first | refine W_assoc ?_ | (show W _ (.seq (.region _ _) _) _ _; refine W_reg (by simp; with_reducible rfl) ?_) | (show R _ _ _ (_ :: _) _ _ _ _; refine R_op (by simp (maxSteps := 2000000) [h1]; with_reducible rfl) ?_) | (show R _ _ _ [] _ _ _ _; refine R_nil (by simp; with_reducible rfl) ?_) | (show W _ (.seq (.cond _ _ _) _) _ _; first | refine W_ct (by first | (simp [h1]; done) | fail) ?_ | refine W_cf (by first | (simp [h1]; done) | fail) ?_) | refine W_skip ?_ | refine W_bl (c := .seq _ _) ?_ | refine W_bl (c := .region _ _) ?_ | refine W_bl (c := .cond _ _ _) ?_ | refine W_bl (c := .block _ _) ?_ | refine W_rt ?_ | refine W_ex ?_ | refine W_end ?_ | refine W_tail (a := .region _ _) ?_ | refine W_tail (a := .cond _ _ _) ?_ | refine W_tail (a := .ret) ?_ | refine W_tail (a := .exit _) ?_ | refine W_tail (a := .block _ _) ?_ | refine QB_normal ?_ | refine QB_exit ?_ | refine QB_ret ?_ | refine QB_out (by decide) ?_ | refine QL_next ?_ | refine QL_exit ?_ | refine QL_ret ?_ | refine QL_out (by decide) ?_ | (show Fin _ _ .ret _; exact Fin_ret (by first | (simp [c106]; done) | (simp [c106]; with_reducible rfl))) | (show Fin _ _ .normal _; exact Fin_end (by first | (simp [c106]; done) | (simp [c106]; with_reducible rfl))))

/-- Heard. -/
def hr (l : List Int) (x : Int) : List Int := if 0 ≤ x ∧ x < l.length then l.set x.toNat 0 else l
theorem hr_len (l : List Int) (x : Int) : (hr l x).length = l.length := by unfold hr; split <;> simp

theorem F_hear (l : List Int) (hl : l.length ≤ 1000000) (s le x : Int) : F T 17 [.agg [.int .i64 s, .int .i64 le, .ro 1 (enc (eInt .i64) l) false], .int .i64 x] [] =
    some (.agg [.int .i64 s, .int .i64 le, .own 0 0 l.length], [⟨3, 1, false, enc (eInt .i64) (hr l x), 0⟩]) := by
  have h2 := F_clo l hl
  have h3 := F_there l hl s le x
  by_cases hx : 0 ≤ x ∧ x < l.length
  · have hx1 : x.toNat < l.length := by omega
    obtain ⟨hx0, hx2⟩ := hx
    simp only [hx0, hx2, and_self, decide_true] at h3
    have hh : hr l x = l.set x.toNat 0 := by unfold hr; rw [if_pos ⟨hx0, hx2⟩]
    rw [hh]
    refine F_W T17 ?_
    simp only [c17, c17_b, Lift.start]
    repeat (first | refine W_assoc ?_ | (show W _ (.seq (.region _ _) _) _ _; refine W_reg (by simp; with_reducible rfl) ?_) | (show R _ _ _ (_ :: _) _ _ _ _; refine R_op (by simp (maxSteps := 2000000) [h2, h3, hx0, hx1, hx2]; with_reducible rfl) ?_) | (show R _ _ _ [] _ _ _ _; refine R_nil (by simp; with_reducible rfl) ?_) | (show W _ (.seq (.cond _ _ _) _) _ _; first | refine W_ct (by first | (simp [h2, h3, hx0, hx1, hx2]; done) | fail) ?_ | refine W_cf (by first | (simp [h2, h3, hx0, hx1, hx2]; done) | fail) ?_) | refine W_skip ?_ | refine W_bl (c := .seq _ _) ?_ | refine W_bl (c := .region _ _) ?_ | refine W_bl (c := .cond _ _ _) ?_ | refine W_bl (c := .block _ _) ?_ | refine W_rt ?_ | refine W_ex ?_ | refine W_end ?_ | refine W_tail (a := .region _ _) ?_ | refine W_tail (a := .cond _ _ _) ?_ | refine W_tail (a := .ret) ?_ | refine W_tail (a := .exit _) ?_ | refine W_tail (a := .block _ _) ?_ | refine QB_normal ?_ | refine QB_exit ?_ | refine QB_ret ?_ | refine QB_out (by decide) ?_ | refine QL_next ?_ | refine QL_exit ?_ | refine QL_ret ?_ | refine QL_out (by decide) ?_ | (show Fin _ _ .ret _; exact Fin_ret (by first | (simp [c17]; done) | (simp [c17]; with_reducible rfl))) | (show Fin _ _ .normal _; exact Fin_end (by first | (simp [c17]; done) | (simp [c17]; with_reducible rfl))))
  · simp only [hx, decide_false] at h3
    have hh : hr l x = l := by unfold hr; rw [if_neg hx]
    rw [hh]
    refine F_W T17 ?_
    simp only [c17, c17_b, Lift.start]
    repeat (first | refine W_assoc ?_ | (show W _ (.seq (.region _ _) _) _ _; refine W_reg (by simp; with_reducible rfl) ?_) | (show R _ _ _ (_ :: _) _ _ _ _; refine R_op (by simp (maxSteps := 2000000) [h2, h3]; with_reducible rfl) ?_) | (show R _ _ _ [] _ _ _ _; refine R_nil (by simp; with_reducible rfl) ?_) | (show W _ (.seq (.cond _ _ _) _) _ _; first | refine W_ct (by first | (simp [h2, h3]; done) | fail) ?_ | refine W_cf (by first | (simp [h2, h3]; done) | fail) ?_) | refine W_skip ?_ | refine W_bl (c := .seq _ _) ?_ | refine W_bl (c := .region _ _) ?_ | refine W_bl (c := .cond _ _ _) ?_ | refine W_bl (c := .block _ _) ?_ | refine W_rt ?_ | refine W_ex ?_ | refine W_end ?_ | refine W_tail (a := .region _ _) ?_ | refine W_tail (a := .cond _ _ _) ?_ | refine W_tail (a := .ret) ?_ | refine W_tail (a := .exit _) ?_ | refine W_tail (a := .block _ _) ?_ | refine QB_normal ?_ | refine QB_exit ?_ | refine QB_ret ?_ | refine QB_out (by decide) ?_ | refine QL_next ?_ | refine QL_exit ?_ | refine QL_ret ?_ | refine QL_out (by decide) ?_ | (show Fin _ _ .ret _; exact Fin_ret (by first | (simp [c17]; done) | (simp [c17]; with_reducible rfl))) | (show Fin _ _ .normal _; exact Fin_end (by first | (simp [c17]; done) | (simp [c17]; with_reducible rfl))))
end Go.Proofs.Ytnobgooojbppbaa.Beat
