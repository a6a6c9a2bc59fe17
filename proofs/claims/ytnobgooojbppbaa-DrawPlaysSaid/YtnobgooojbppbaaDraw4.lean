/- Draws: what is played with a tape. -/
import Derived.Test.YtnobgooojbppbaaDraw3
set_option linter.all false
set_option linter.unusedSimpArgs false
set_option maxRecDepth 100000
set_option maxHeartbeats 4000000
namespace Go.Proofs.Ytnobgooojbppbaa.Flock
open Go Go.RowKit Go.Proofs.Ytnobgooojbppbaa.Lift Go.Proofs.Ytnobgooojbppbaa.TF Go.Proofs.Ytnobgooojbppbaa.Base Go.Proofs.Ytnobgooojbppbaa.FlockIn

/-- Numbers of 64 bits. -/
def U (l : List Int) : Prop := ∀ y ∈ l, 0 ≤ y ∧ y < 18446744073709551616
theorem U.drop {l : List Int} (h : U l) (n : Nat) : U (l.drop n) := fun y hy => h y (List.mem_of_mem_drop hy)
theorem U.app {l m : List Int} (h : U l) (h' : U m) : U (l ++ m) := fun y hy => (List.mem_append.1 hy).elim (h y) (h' y)
theorem U.hd {l : List Int} (h : U l) : 0 ≤ l.headD 0 ∧ l.headD 0 < 18446744073709551616 := by
  cases l with
  | nil => simp
  | cons a l => exact h a (by simp)

theorem adv1 (r : List Int) (lo : Nat) (h : lo ≤ r.length) : r.drop (adv r lo 1) = (r.drop lo).tail := by
  unfold adv
  rw [List.tail_drop]
  rcases Nat.lt_or_ge lo r.length with h | h
  · rw [Nat.min_eq_left (by omega)]
  · rw [List.drop_of_length_le (by omega), List.drop_of_length_le (by omega)]
theorem adv_le (r : List Int) (lo j : Nat) : adv r lo j ≤ r.length := by unfold adv; omega

/-- A draw below any number. -/
def bl (l : List Int) (n : Int) : Int := if n < 1 then 0 else l.headD 0 % n

theorem F_nextA (r : List Int) (lo : Nat) (h : lo ≤ r.length) : F T 48 [.ref 0 0 0] [tv lo (r.length - lo), tr r] = some (.int .u64 ((r.drop lo).headD 0), [tv (adv r lo 1) (r.length - adv r lo 1), tr r]) := by
  by_cases h1 : lo < r.length
  · have e1 : r.length - lo = (r.length - lo - 1) + 1 := by omega
    have e2 : adv r lo 1 = lo + 1 := by unfold adv; omega
    rw [e2, e1, F_next r lo _ (by omega), List.drop_eq_getElem_cons h1]
    rw [show r.length - (lo + 1) = r.length - lo - 1 by omega]
    rfl
  · have e1 : r.length - lo = 0 := by omega
    have e2 : adv r lo 1 = lo := by unfold adv; omega
    rw [e2, e1, F_next0 r lo, List.drop_of_length_le (by omega)]
    rfl

theorem rem_facts (y n : Int) (hy : 0 ≤ y ∧ y < 18446744073709551616) (h1 : 1 ≤ n) (h2 : n ≤ 9223372036854775807) : IntKind.u64.wrap n = n ∧ y.tmod n = y % n ∧ IntKind.i64.wrap (y % n) = y % n := by
  have h3 := Int.emod_lt_of_pos y (show 0 < n by omega)
  have h4 := Int.emod_nonneg y (show n ≠ 0 by omega)
  refine ⟨IntWalk.u64_in _ (by omega), Int.tmod_eq_emod_of_nonneg hy.1, ?_⟩
  rw [wrap_i64 _ (by omega) (by omega)]

theorem F_belowN (r : List Int) (hr : U r) (lo : Nat) (h : lo ≤ r.length) (n : Int) (h1 : 1 ≤ n) (h2 : n ≤ 9223372036854775807) :
    F T 50 [.ref 0 0 0, .int .i64 n] [tv lo (r.length - lo), tr r] = some (.int .i64 (bl (r.drop lo) n), [tv (adv r lo 1) (r.length - adv r lo 1), tr r]) := by
  have v1 := F_nextA r lo h
  have hy := (hr.drop lo).hd
  obtain ⟨g1, g2, g3⟩ := rem_facts _ n hy h1 h2
  have h3 : ¬ n < 1 := by omega
  have h4 : ¬ n = 0 := by omega
  unfold bl
  rw [if_neg h3]
  generalize (r.drop lo).headD 0 = y at *
  generalize adv r lo 1 = lo' at *
  refine F_W T50 ?_
  simp only [c50, c50_b, Lift.start]
  repeat (first | refine W_assoc ?_ | (show W _ (.seq (.region _ _) _) _ _; refine W_reg (by simp; with_reducible rfl) ?_) | (show R _ _ _ (_ :: _) _ _ _ _; refine R_op (by simp (maxSteps := 2000000) [v1, h3, h4, g1, g2, g3]; with_reducible rfl) ?_) | (show R _ _ _ [] _ _ _ _; refine R_nil (by simp; with_reducible rfl) ?_) | (show W _ (.seq (.cond _ _ _) _) _ _; first | refine W_ct (by first | (simp [v1, h3, h4, g1, g2, g3]; done) | fail) ?_ | refine W_cf (by first | (simp [v1, h3, h4, g1, g2, g3]; done) | fail) ?_) | refine W_skip ?_ | refine W_bl (c := .seq _ _) ?_ | refine W_bl (c := .region _ _) ?_ | refine W_bl (c := .cond _ _ _) ?_ | refine W_bl (c := .block _ _) ?_ | refine W_rt ?_ | refine W_ex ?_ | refine W_end ?_ | refine W_tail (a := .region _ _) ?_ | refine W_tail (a := .cond _ _ _) ?_ | refine W_tail (a := .ret) ?_ | refine W_tail (a := .exit _) ?_ | refine W_tail (a := .block _ _) ?_ | refine QB_normal ?_ | refine QB_exit ?_ | refine QB_ret ?_ | refine QB_out (by decide) ?_ | refine QL_next ?_ | refine QL_exit ?_ | refine QL_ret ?_ | refine QL_out (by decide) ?_ | (show Fin _ _ .ret _; exact Fin_ret (by first | (simp [c50]; done) | (simp [c50]; with_reducible rfl))) | (show Fin _ _ .normal _; exact Fin_end (by first | (simp [c50]; done) | (simp [c50]; with_reducible rfl))))

theorem F_below1 (r : List Int) (lo m : Nat) (n : Int) (h1 : n < 1) :
    F T 50 [.ref 0 0 0, .int .i64 n] [tv lo m, tr r] = some (.int .i64 0, [tv lo m, tr r]) := by
  refine F_W T50 ?_
  simp only [c50, c50_b, Lift.start]
  repeat (first | refine W_assoc ?_ | (show W _ (.seq (.region _ _) _) _ _; refine W_reg (by simp; with_reducible rfl) ?_) | (show R _ _ _ (_ :: _) _ _ _ _; refine R_op (by simp (maxSteps := 2000000) [h1]; with_reducible rfl) ?_) | (show R _ _ _ [] _ _ _ _; refine R_nil (by simp; with_reducible rfl) ?_) | (show W _ (.seq (.cond _ _ _) _) _ _; first | refine W_ct (by first | (simp [h1]; done) | fail) ?_ | refine W_cf (by first | (simp [h1]; done) | fail) ?_) | refine W_skip ?_ | refine W_bl (c := .seq _ _) ?_ | refine W_bl (c := .region _ _) ?_ | refine W_bl (c := .cond _ _ _) ?_ | refine W_bl (c := .block _ _) ?_ | refine W_rt ?_ | refine W_ex ?_ | refine W_end ?_ | refine W_tail (a := .region _ _) ?_ | refine W_tail (a := .cond _ _ _) ?_ | refine W_tail (a := .ret) ?_ | refine W_tail (a := .exit _) ?_ | refine W_tail (a := .block _ _) ?_ | refine QB_normal ?_ | refine QB_exit ?_ | refine QB_ret ?_ | refine QB_out (by decide) ?_ | refine QL_next ?_ | refine QL_exit ?_ | refine QL_ret ?_ | refine QL_out (by decide) ?_ | (show Fin _ _ .ret _; exact Fin_ret (by first | (simp [c50]; done) | (simp [c50]; with_reducible rfl))) | (show Fin _ _ .normal _; exact Fin_end (by first | (simp [c50]; done) | (simp [c50]; with_reducible rfl))))

theorem F_left (r : List Int) (lo : Nat) (h : lo ≤ r.length) (hl : r.length ≤ 100000) : F T 55 [.ref 0 0 0] [tv lo (r.length - lo), tr r] = some (.own 2 0 (r.drop lo).length, [tv lo (r.length - lo), tr r, tr (r.drop lo)]) := by
  have e1 : (r.drop lo).length = r.length - lo := by simp
  have e2 : (r.drop lo).take (r.length - lo) = r.drop lo := List.take_of_length_le (by simp)
  have hb : (r.length - lo) * 8 ≤ 140737488355328 := by omega
  have hb2 : r.length - lo ≤ 140737488355328 := by omega
  have hb3 : lo + (r.length - lo) ≤ r.length := by omega
  rw [e1]
  generalize hm : r.length - lo = m at *
  refine F_W T55 ?_
  simp only [c55, c55_b, Lift.start]
  repeat (first | refine W_assoc ?_ | (show W _ (.seq (.region _ _) _) _ _; refine W_reg (by simp; with_reducible rfl) ?_) | (show R _ _ _ (_ :: _) _ _ _ _; refine R_op (by simp (maxSteps := 2000000) [e2, hm, hb, hb2, hb3]; with_reducible rfl) ?_) | (show R _ _ _ [] _ _ _ _; refine R_nil (by simp; with_reducible rfl) ?_) | (show W _ (.seq (.cond _ _ _) _) _ _; first | refine W_ct (by first | (simp [e2, hm, hb, hb2, hb3]; done) | fail) ?_ | refine W_cf (by first | (simp [e2, hm, hb, hb2, hb3]; done) | fail) ?_) | refine W_skip ?_ | refine W_bl (c := .seq _ _) ?_ | refine W_bl (c := .region _ _) ?_ | refine W_bl (c := .cond _ _ _) ?_ | refine W_bl (c := .block _ _) ?_ | refine W_rt ?_ | refine W_ex ?_ | refine W_end ?_ | refine W_tail (a := .region _ _) ?_ | refine W_tail (a := .cond _ _ _) ?_ | refine W_tail (a := .ret) ?_ | refine W_tail (a := .exit _) ?_ | refine W_tail (a := .block _ _) ?_ | refine QB_normal ?_ | refine QB_exit ?_ | refine QB_ret ?_ | refine QB_out (by decide) ?_ | refine QL_next ?_ | refine QL_exit ?_ | refine QL_ret ?_ | refine QL_out (by decide) ?_ | (show Fin _ _ .ret _; exact Fin_ret (by first | (simp [c55, e2, hm]; done) | (simp [c55, e2, hm]; with_reducible rfl))) | (show Fin _ _ .normal _; exact Fin_end (by first | (simp [c55, e2, hm]; done) | (simp [c55, e2, hm]; with_reducible rfl))))

theorem F_add (r : List Int) (lo : Nat) (h : lo ≤ r.length) (hl : r.length ≤ 100000) (l : List Int) (hne : l ≠ []) (hl2 : l.length ≤ 100000) : F T 52 [.ref 0 0 0, .ro 1 (enc (eInt .u64) l) false] [tv lo (r.length - lo), tr r] = some (.tup [], [⟨157, 1, true, [[.own 2 0 (r.drop lo ++ l).length]], 0⟩, tr r, tr (r.drop lo ++ l)]) := by
  have e1 : (r.drop lo).length = r.length - lo := by simp
  have e2 : (r.drop lo).take (r.length - lo) = r.drop lo := List.take_of_length_le (by simp)
  have hb : (r.length - lo) * 8 ≤ 140737488355328 := by omega
  have hb2 : r.length - lo ≤ 140737488355328 := by omega
  have hb3 : lo + (r.length - lo) ≤ r.length := by omega
  have hb4 : (r.length - lo + l.length) * 8 ≤ 140737488355328 := by omega
  have hb5 : r.length - lo + l.length ≤ 140737488355328 := by omega
  have hp : 0 < l.length := List.length_pos_iff.2 hne
  have hb6 : ¬ (r.length - lo + l.length ≤ r.length - lo) := by omega
  rw [List.length_append, e1]
  generalize hm : r.length - lo = m at *
  refine F_W T52 ?_
  simp only [c52, c52_b, Lift.start]
  repeat (first | refine W_assoc ?_ | (show W _ (.seq (.region _ _) _) _ _; refine W_reg (by simp; with_reducible rfl) ?_) | (show R _ _ _ (_ :: _) _ _ _ _; refine R_op (by simp (maxSteps := 2000000) [e1, e2, hm, hb, hb2, hb3, hb4, hb5, hb6, hne]; with_reducible rfl) ?_) | (show R _ _ _ [] _ _ _ _; refine R_nil (by simp; with_reducible rfl) ?_) | (show W _ (.seq (.cond _ _ _) _) _ _; first | refine W_ct (by first | (simp [e1, e2, hm, hb, hb2, hb3, hb4, hb5, hb6, hne]; done) | fail) ?_ | refine W_cf (by first | (simp [e1, e2, hm, hb, hb2, hb3, hb4, hb5, hb6, hne]; done) | fail) ?_) | refine W_skip ?_ | refine W_bl (c := .seq _ _) ?_ | refine W_bl (c := .region _ _) ?_ | refine W_bl (c := .cond _ _ _) ?_ | refine W_bl (c := .block _ _) ?_ | refine W_rt ?_ | refine W_ex ?_ | refine W_end ?_ | refine W_tail (a := .region _ _) ?_ | refine W_tail (a := .cond _ _ _) ?_ | refine W_tail (a := .ret) ?_ | refine W_tail (a := .exit _) ?_ | refine W_tail (a := .block _ _) ?_ | refine QB_normal ?_ | refine QB_exit ?_ | refine QB_ret ?_ | refine QB_out (by decide) ?_ | refine QL_next ?_ | refine QL_exit ?_ | refine QL_ret ?_ | refine QL_out (by decide) ?_ | (show Fin _ _ .ret _; exact Fin_ret (by first | (simp [c52, e2, hm]; done) | (simp [c52, e2, hm]; with_reducible rfl))) | (show Fin _ _ .normal _; exact Fin_end (by first | (simp [c52, e2, hm]; done) | (simp [c52, e2, hm]; with_reducible rfl))))

theorem F_clone (r : List Int) (lo : Nat) (h : lo ≤ r.length) (hl : r.length ≤ 100000) : F T 53 [.ref 0 0 0] [tv lo (r.length - lo), tr r] = some (.ref 2 0 0, [tv lo (r.length - lo), tr r, ⟨157, 1, true, [[.own 3 0 (r.drop lo).length]], 0⟩, tr (r.drop lo)]) := by
  have e1 : (r.drop lo).length = r.length - lo := by simp
  have e2 : (r.drop lo).take (r.length - lo) = r.drop lo := List.take_of_length_le (by simp)
  have v1 := F_new (r.drop lo) (by omega)
  have hb3 : lo + (r.length - lo) ≤ r.length := by omega
  rw [e1] at v1 ⊢
  generalize hm : r.length - lo = m at *
  refine F_W T53 ?_
  simp only [c53, c53_b, Lift.start]
  repeat (first | refine W_assoc ?_ | (show W _ (.seq (.region _ _) _) _ _; refine W_reg (by simp; with_reducible rfl) ?_) | (show R _ _ _ (_ :: _) _ _ _ _; refine R_op (by simp (maxSteps := 2000000) [e2, hm, v1, hb3]; with_reducible rfl) ?_) | (show R _ _ _ [] _ _ _ _; refine R_nil (by simp; with_reducible rfl) ?_) | (show W _ (.seq (.cond _ _ _) _) _ _; first | refine W_ct (by first | (simp [e2, hm, v1, hb3]; done) | fail) ?_ | refine W_cf (by first | (simp [e2, hm, v1, hb3]; done) | fail) ?_) | refine W_skip ?_ | refine W_bl (c := .seq _ _) ?_ | refine W_bl (c := .region _ _) ?_ | refine W_bl (c := .cond _ _ _) ?_ | refine W_bl (c := .block _ _) ?_ | refine W_rt ?_ | refine W_ex ?_ | refine W_end ?_ | refine W_tail (a := .region _ _) ?_ | refine W_tail (a := .cond _ _ _) ?_ | refine W_tail (a := .ret) ?_ | refine W_tail (a := .exit _) ?_ | refine W_tail (a := .block _ _) ?_ | refine QB_normal ?_ | refine QB_exit ?_ | refine QB_ret ?_ | refine QB_out (by decide) ?_ | refine QL_next ?_ | refine QL_exit ?_ | refine QL_ret ?_ | refine QL_out (by decide) ?_ | (show Fin _ _ .ret _; exact Fin_ret (by first | (simp [c53, e2, hm]; done) | (simp [c53, e2, hm]; with_reducible rfl))) | (show Fin _ _ .normal _; exact Fin_end (by first | (simp [c53, e2, hm]; done) | (simp [c53, e2, hm]; with_reducible rfl))))

theorem R07_Same_loop (l m : List Int) (hl : l.length ≤ 140737488355328) (hlm : l.length = m.length) :
    ∀ (k i : Nat) (st : ASt), i + k = l.length → canon [0, 1, 5] st = ⟨[.ro 1 (enc (eInt .u64) l) false, .ro 1 (enc (eInt .u64) m) false, .top, .top, .top, .int .i64 i, .top, .top, .top, .top, .top, .top, .top, .top, .top, .top, .top, .top, .top, .top, .top, .top, .top, .top, .top, .top], [], 0, 0⟩ → W T c54_k0 st (Lift.Fin c54 (.bool (decide (l.drop i = m.drop i)), [])) := by
  intro k
  induction k with
  | zero =>
    intro i st hi hc
    have h1 : ¬ i < l.length := by omega
    have e1 : l.drop i = [] := List.drop_of_length_le (by omega)
    have e2 : m.drop i = [] := List.drop_of_length_le (by omega)
    unfold c54_k0
    refine W_exit (by rw [hc]; simp (maxSteps := 2000000) [c54_l0, h1]; with_reducible rfl) ?_
    exact W_fin (ex := .ret) (by simp (maxSteps := 2000000); with_reducible rfl) (by simp) (by first | (simp [c54, e1, e2]; done) | (simp [c54, e1, e2]; with_reducible rfl))
  | succ k ih =>
    intro i st hi hc
    have hlt : i < l.length := by omega
    have hlt2 : i < m.length := by omega
    have hw := wrapS i _ hlt hl
    have d1 := List.drop_eq_getElem_cons hlt
    have d2 := List.drop_eq_getElem_cons hlt2
    unfold c54_k0
    by_cases he : l[i] = m[i]
    · rw [d1, d2, he]
      simp only [List.cons.injEq, true_and]
      refine W_next (by rw [hc]; simp (maxSteps := 2000000) [c54_l0, hlt, hlt2, hw, he, eqCs, hlm]; with_reducible rfl) ?_
      exact ih (i + 1) _ (by omega) (by simp [hlm])
    · have hd : decide (l.drop i = m.drop i) = false := by
        rw [decide_eq_false_iff_not, d1, d2]; intro e; injection e with e _; exact he e
      rw [hd]
      exact W_ret (by rw [hc]; simp (maxSteps := 2000000) [c54_l0, hlt, hlt2, he, hlm]; with_reducible rfl) (Fin_ret (by simp [c54]))

theorem F_R07_Same (l m : List Int) (hl : l.length ≤ 1000000) (hm : m.length ≤ 1000000) : F T 54 [.ro 1 (enc (eInt .u64) l) false, .ro 1 (enc (eInt .u64) m) false] [] = some (.bool (decide (l = m)), []) := by
  refine F_W T54 ?_
  by_cases h : l.length = m.length
  · simp only [c54, c54_b, Lift.start]
    repeat (first | refine W_assoc ?_ | refine W_go (a := .region _ _) (by simp (maxSteps := 2000000) [h]; with_reducible rfl) ?_ | refine W_go (a := .cond _ _ _) (by simp (maxSteps := 2000000) [h]; with_reducible rfl) ?_ | refine W_go (a := .block _ (.seq _ _)) (by simp (maxSteps := 2000000) [h]; with_reducible rfl) ?_)
    have := R07_Same_loop l m (by omega) h l.length 0
    simp only [List.drop_zero] at this
    exact this _ (by simp) (by simp [h])
  · have h1 : decide (l = m) = false := by
      rw [decide_eq_false_iff_not]; intro e; exact h (by rw [e])
    have h2 : ¬ (l.length : Int) = (m.length : Int) := by omega
    rw [h1]
    exact W_fin (ex := .ret) (by simp (maxSteps := 2000000) [c54, c54_b, h2, h]; with_reducible rfl) (by simp) (by first | (simp [c54]; done) | (simp [c54]; with_reducible rfl))


theorem F_R07Next0 : F T 47 [.ro 1 (enc (eInt .u64) []) false] [] = some (.tup [.int .u64 0, .own 0 0 0], [tr []]) := by
  refine F_W T47 ?_
  simp only [c47, c47_b, Lift.start]
  repeat (first | refine W_assoc ?_ | (show W _ (.seq (.region _ _) _) _ _; refine W_reg (by simp; with_reducible rfl) ?_) | (show R _ _ _ (_ :: _) _ _ _ _; refine R_op (by simp (maxSteps := 2000000); with_reducible rfl) ?_) | (show R _ _ _ [] _ _ _ _; refine R_nil (by simp; with_reducible rfl) ?_) | (show W _ (.seq (.cond _ _ _) _) _ _; first | refine W_ct (by first | (simp; done) | fail) ?_ | refine W_cf (by first | (simp; done) | fail) ?_) | refine W_skip ?_ | refine W_bl (c := .seq _ _) ?_ | refine W_bl (c := .region _ _) ?_ | refine W_bl (c := .cond _ _ _) ?_ | refine W_bl (c := .block _ _) ?_ | refine W_rt ?_ | refine W_ex ?_ | refine W_end ?_ | refine W_tail (a := .region _ _) ?_ | refine W_tail (a := .cond _ _ _) ?_ | refine W_tail (a := .ret) ?_ | refine W_tail (a := .exit _) ?_ | refine W_tail (a := .block _ _) ?_ | refine QB_normal ?_ | refine QB_exit ?_ | refine QB_ret ?_ | refine QB_out (by decide) ?_ | refine QL_next ?_ | refine QL_exit ?_ | refine QL_ret ?_ | refine QL_out (by decide) ?_ | (show Fin _ _ .ret _; exact Fin_ret (by first | (simp [c47]; done) | (simp [c47]; with_reducible rfl))) | (show Fin _ _ .normal _; exact Fin_end (by first | (simp [c47]; done) | (simp [c47]; with_reducible rfl))))

theorem F_R07Next1 (y : Int) (l : List Int) (hl : l.length ≤ 100000) : F T 47 [.ro 1 (enc (eInt .u64) (y :: l)) false] [] = some (.tup [.int .u64 y, .ro 1 (enc (eInt .u64) l) false], []) := by
  have h1 : ¬ (l.length : Int) + 1 = 0 := by omega
  have h2 : (1 : Int) ≤ (l.length : Int) + 1 := by omega
  have h3 : (0 : Int) < (l.length : Int) + 1 := by omega
  refine F_W T47 ?_
  simp only [c47, c47_b, Lift.start]
  repeat (first | refine W_assoc ?_ | (show W _ (.seq (.region _ _) _) _ _; refine W_reg (by simp; with_reducible rfl) ?_) | (show R _ _ _ (_ :: _) _ _ _ _; refine R_op (by simp (maxSteps := 2000000) [h1, h2, h3]; with_reducible rfl) ?_) | (show R _ _ _ [] _ _ _ _; refine R_nil (by simp; with_reducible rfl) ?_) | (show W _ (.seq (.cond _ _ _) _) _ _; first | refine W_ct (by first | (simp [h1, h2, h3]; done) | fail) ?_ | refine W_cf (by first | (simp [h1, h2, h3]; done) | fail) ?_) | refine W_skip ?_ | refine W_bl (c := .seq _ _) ?_ | refine W_bl (c := .region _ _) ?_ | refine W_bl (c := .cond _ _ _) ?_ | refine W_bl (c := .block _ _) ?_ | refine W_rt ?_ | refine W_ex ?_ | refine W_end ?_ | refine W_tail (a := .region _ _) ?_ | refine W_tail (a := .cond _ _ _) ?_ | refine W_tail (a := .ret) ?_ | refine W_tail (a := .exit _) ?_ | refine W_tail (a := .block _ _) ?_ | refine QB_normal ?_ | refine QB_exit ?_ | refine QB_ret ?_ | refine QB_out (by decide) ?_ | refine QL_next ?_ | refine QL_exit ?_ | refine QL_ret ?_ | refine QL_out (by decide) ?_ | (show Fin _ _ .ret _; exact Fin_ret (by first | (simp [c47]; done) | (simp [c47]; with_reducible rfl))) | (show Fin _ _ .normal _; exact Fin_end (by first | (simp [c47]; done) | (simp [c47]; with_reducible rfl))))

theorem F_R07Below0 (l : List Int) (n : Int) (h : n < 1) : F T 49 [.ro 1 (enc (eInt .u64) l) false, .int .i64 n] [] = some (.tup [.int .i64 0, .ro 1 (enc (eInt .u64) l) false], []) := by
  refine F_W T49 ?_
  simp only [c49, c49_b, Lift.start]
  repeat (first | refine W_assoc ?_ | (show W _ (.seq (.region _ _) _) _ _; refine W_reg (by simp; with_reducible rfl) ?_) | (show R _ _ _ (_ :: _) _ _ _ _; refine R_op (by simp (maxSteps := 2000000) [h]; with_reducible rfl) ?_) | (show R _ _ _ [] _ _ _ _; refine R_nil (by simp; with_reducible rfl) ?_) | (show W _ (.seq (.cond _ _ _) _) _ _; first | refine W_ct (by first | (simp [h]; done) | fail) ?_ | refine W_cf (by first | (simp [h]; done) | fail) ?_) | refine W_skip ?_ | refine W_bl (c := .seq _ _) ?_ | refine W_bl (c := .region _ _) ?_ | refine W_bl (c := .cond _ _ _) ?_ | refine W_bl (c := .block _ _) ?_ | refine W_rt ?_ | refine W_ex ?_ | refine W_end ?_ | refine W_tail (a := .region _ _) ?_ | refine W_tail (a := .cond _ _ _) ?_ | refine W_tail (a := .ret) ?_ | refine W_tail (a := .exit _) ?_ | refine W_tail (a := .block _ _) ?_ | refine QB_normal ?_ | refine QB_exit ?_ | refine QB_ret ?_ | refine QB_out (by decide) ?_ | refine QL_next ?_ | refine QL_exit ?_ | refine QL_ret ?_ | refine QL_out (by decide) ?_ | (show Fin _ _ .ret _; exact Fin_ret (by first | (simp [c49]; done) | (simp [c49]; with_reducible rfl))) | (show Fin _ _ .normal _; exact Fin_end (by first | (simp [c49]; done) | (simp [c49]; with_reducible rfl))))

theorem F_R07Below1 (l : List Int) (hl : l.length ≤ 100000) (hu : U l) (n : Int) (h1 : 1 ≤ n) (h2 : n ≤ 9223372036854775807) : F T 49 [.ro 1 (enc (eInt .u64) l) false, .int .i64 n] [] = some (.tup [.int .i64 (bl l n), .ro 1 (enc (eInt .u64) l.tail) false], []) := by
  have h3 : ¬ n < 1 := by omega
  have h4 : ¬ n = 0 := by omega
  obtain ⟨g1, g2, g3⟩ := rem_facts _ n hu.hd h1 h2
  unfold bl
  rw [if_neg h3]
  cases l with
  | nil =>
    simp only [List.headD_nil, List.tail_nil] at *
    have v1 := FV_of F_R07Next0
    simp at v1
    refine F_W T49 ?_
    simp only [c49, c49_b, Lift.start]
    simp only [enc_nil]
    have h6 : IntKind.i64.wrap 0 = 0 := by decide
    repeat (first | refine W_assoc ?_ | (show W _ (.seq (.region _ _) _) _ _; refine W_reg (by simp; with_reducible rfl) ?_) | (show R _ _ _ (_ :: _) _ _ _ _; refine R_op (by simp (maxSteps := 2000000) [v1, h3, h4, g1, g2, g3, h6]; with_reducible rfl) ?_) | (show R _ _ _ [] _ _ _ _; refine R_nil (by simp; with_reducible rfl) ?_) | (show W _ (.seq (.cond _ _ _) _) _ _; first | refine W_ct (by first | (simp [v1, h3, h4, g1, g2, g3, h6]; done) | fail) ?_ | refine W_cf (by first | (simp [v1, h3, h4, g1, g2, g3, h6]; done) | fail) ?_) | refine W_skip ?_ | refine W_bl (c := .seq _ _) ?_ | refine W_bl (c := .region _ _) ?_ | refine W_bl (c := .cond _ _ _) ?_ | refine W_bl (c := .block _ _) ?_ | refine W_rt ?_ | refine W_ex ?_ | refine W_end ?_ | refine W_tail (a := .region _ _) ?_ | refine W_tail (a := .cond _ _ _) ?_ | refine W_tail (a := .ret) ?_ | refine W_tail (a := .exit _) ?_ | refine W_tail (a := .block _ _) ?_ | refine QB_normal ?_ | refine QB_exit ?_ | refine QB_ret ?_ | refine QB_out (by decide) ?_ | refine QL_next ?_ | refine QL_exit ?_ | refine QL_ret ?_ | refine QL_out (by decide) ?_ | (show Fin _ _ .ret _; exact Fin_ret (by first | (simp [c49, h6]; done) | (simp [c49, h6]; with_reducible rfl))) | (show Fin _ _ .normal _; exact Fin_end (by first | (simp [c49, h6]; done) | (simp [c49, h6]; with_reducible rfl))))
  | cons y l =>
    simp only [List.headD_cons, List.tail_cons] at *
    simp only [List.length_cons] at hl
    have v1 := FV_of (F_R07Next1 y l (by omega))
    simp at v1
    refine F_W T49 ?_
    simp only [c49, c49_b, Lift.start]
    repeat (first | refine W_assoc ?_ | (show W _ (.seq (.region _ _) _) _ _; refine W_reg (by simp; with_reducible rfl) ?_) | (show R _ _ _ (_ :: _) _ _ _ _; refine R_op (by simp (maxSteps := 2000000) [v1, h3, h4, g1, g2, g3]; with_reducible rfl) ?_) | (show R _ _ _ [] _ _ _ _; refine R_nil (by simp; with_reducible rfl) ?_) | (show W _ (.seq (.cond _ _ _) _) _ _; first | refine W_ct (by first | (simp [v1, h3, h4, g1, g2, g3]; done) | fail) ?_ | refine W_cf (by first | (simp [v1, h3, h4, g1, g2, g3]; done) | fail) ?_) | refine W_skip ?_ | refine W_bl (c := .seq _ _) ?_ | refine W_bl (c := .region _ _) ?_ | refine W_bl (c := .cond _ _ _) ?_ | refine W_bl (c := .block _ _) ?_ | refine W_rt ?_ | refine W_ex ?_ | refine W_end ?_ | refine W_tail (a := .region _ _) ?_ | refine W_tail (a := .cond _ _ _) ?_ | refine W_tail (a := .ret) ?_ | refine W_tail (a := .exit _) ?_ | refine W_tail (a := .block _ _) ?_ | refine QB_normal ?_ | refine QB_exit ?_ | refine QB_ret ?_ | refine QB_out (by decide) ?_ | refine QL_next ?_ | refine QL_exit ?_ | refine QL_ret ?_ | refine QL_out (by decide) ?_ | (show Fin _ _ .ret _; exact Fin_ret (by first | (simp [c49]; done) | (simp [c49]; with_reducible rfl))) | (show Fin _ _ .normal _; exact Fin_end (by first | (simp [c49]; done) | (simp [c49]; with_reducible rfl))))

end Go.Proofs.Ytnobgooojbppbaa.Flock
