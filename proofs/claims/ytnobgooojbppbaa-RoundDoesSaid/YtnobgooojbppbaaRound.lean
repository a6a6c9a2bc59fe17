/- What a scheduler notes of a job: what the program's and the document's functions come to. -/
import Derived.Test.YtnobgooojbppbaaFlock4
set_option linter.all false
set_option linter.unusedSimpArgs false
set_option maxRecDepth 100000
set_option maxHeartbeats 4000000
namespace Go.Proofs.Ytnobgooojbppbaa.Round
open Go Go.RowKit Go.Proofs.Ytnobgooojbppbaa.Lift Go.Proofs.Ytnobgooojbppbaa.TF Go.Proofs.Ytnobgooojbppbaa.Base Go.Proofs.Ytnobgooojbppbaa.FlockIn Go.Proofs.Ytnobgooojbppbaa.Flock

@[simp] theorem enc_setB (l : List Bool) (i : Nat) (a : Bool) : (enc eBool l).set i [AV.bool a] = enc eBool (l.set i a) := enc_set eBool l i a
@[simp] theorem zerosB (n : Nat) : List.replicate n [AV.bool false] = enc eBool (List.replicate n false) := by simp [enc, eBool]

theorem R06_Same_loop (l m : List Int) (hl : l.length ≤ 140737488355328) (hlm : l.length = m.length) :
    ∀ (k i : Nat) (st : ASt), i + k = l.length → canon [0, 1, 5] st = ⟨[.ro 1 (enc (eInt .i64) l) false, .ro 1 (enc (eInt .i64) m) false, .top, .top, .top, .int .i64 i, .top, .top, .top, .top, .top, .top, .top, .top, .top, .top, .top, .top, .top, .top, .top, .top, .top, .top, .top, .top], [], 0, 0⟩ → W T c26_k0 st (Lift.Fin c26 (.bool (decide (l.drop i = m.drop i)), [])) := by
  intro k
  induction k with
  | zero =>
    intro i st hi hc
    have h1 : ¬ i < l.length := by omega
    have e1 : l.drop i = [] := List.drop_of_length_le (by omega)
    have e2 : m.drop i = [] := List.drop_of_length_le (by omega)
    unfold c26_k0
    refine W_exit (by rw [hc]; simp (maxSteps := 2000000) [c26_l0, h1]; with_reducible rfl) ?_
    exact W_fin (ex := .ret) (by simp (maxSteps := 2000000); with_reducible rfl) (by simp) (by first | (simp [c26, e1, e2]; done) | (simp [c26, e1, e2]; with_reducible rfl))
  | succ k ih =>
    intro i st hi hc
    have hlt : i < l.length := by omega
    have hlt2 : i < m.length := by omega
    have hw := wrapS i _ hlt hl
    have d1 := List.drop_eq_getElem_cons hlt
    have d2 := List.drop_eq_getElem_cons hlt2
    unfold c26_k0
    by_cases he : l[i] = m[i]
    · rw [d1, d2, he]
      simp only [List.cons.injEq, true_and]
      refine W_next (by rw [hc]; simp (maxSteps := 2000000) [c26_l0, hlt, hlt2, hw, he, eqCs, hlm]; with_reducible rfl) ?_
      exact ih (i + 1) _ (by omega) (by simp [hlm])
    · have hd : decide (l.drop i = m.drop i) = false := by
        rw [decide_eq_false_iff_not, d1, d2]; intro e; injection e with e _; exact he e
      rw [hd]
      exact W_ret (by rw [hc]; simp (maxSteps := 2000000) [c26_l0, hlt, hlt2, he, hlm]; with_reducible rfl) (Fin_ret (by simp [c26]))

theorem F_R06_Same (l m : List Int) (hl : l.length ≤ 1000000) (hm : m.length ≤ 1000000) : F T 26 [.ro 1 (enc (eInt .i64) l) false, .ro 1 (enc (eInt .i64) m) false] [] = some (.bool (decide (l = m)), []) := by
  refine F_W T26 ?_
  by_cases h : l.length = m.length
  · simp only [c26, c26_b, Lift.start]
    repeat (first | refine W_assoc ?_ | refine W_go (a := .region _ _) (by simp (maxSteps := 2000000) [h]; with_reducible rfl) ?_ | refine W_go (a := .cond _ _ _) (by simp (maxSteps := 2000000) [h]; with_reducible rfl) ?_ | refine W_go (a := .block _ (.seq _ _)) (by simp (maxSteps := 2000000) [h]; with_reducible rfl) ?_)
    have := R06_Same_loop l m (by omega) h l.length 0
    simp only [List.drop_zero] at this
    exact this _ (by simp) (by simp [h])
  · have h1 : decide (l = m) = false := by
      rw [decide_eq_false_iff_not]; intro e; exact h (by rw [e])
    have h2 : ¬ (l.length : Int) = (m.length : Int) := by omega
    rw [h1]
    exact W_fin (ex := .ret) (by simp (maxSteps := 2000000) [c26, c26_b, h2, h]; with_reducible rfl) (by simp) (by first | (simp [c26]; done) | (simp [c26]; with_reducible rfl))

theorem EQU_loop (l m : List Bool) (hl : l.length ≤ 140737488355328) (hlm : l.length = m.length) :
    ∀ (k i : Nat) (st : ASt), i + k = l.length → canon [0, 1, 12, 13] st = ⟨[.ro 1 (enc eBool l) false, .ro 1 (enc eBool m) false, .top, .top, .top, .top, .top, .top, .top, .top, .top, .top, .int .i64 l.length, .int .i64 i, .top, .top, .top, .top, .top, .top, .top, .top, .top, .top, .top, .top], [], 0, 0⟩ → W T c118_k0 st (Lift.Fin c118 (.bool (decide (l.drop i = m.drop i)), [])) := by
  intro k
  induction k with
  | zero =>
    intro i st hi hc
    have h1 : ¬ i < l.length := by omega
    have e1 : l.drop i = [] := List.drop_of_length_le (by omega)
    have e2 : m.drop i = [] := List.drop_of_length_le (by omega)
    unfold c118_k0
    refine W_exit (by rw [hc]; simp (maxSteps := 2000000) [c118_l0, h1]; with_reducible rfl) ?_
    exact W_fin (ex := .ret) (by simp (maxSteps := 2000000); with_reducible rfl) (by simp) (by first | (simp [c118, e1, e2]; done) | (simp [c118, e1, e2]; with_reducible rfl))
  | succ k ih =>
    intro i st hi hc
    have hlt : i < l.length := by omega
    have hlt2 : i < m.length := by omega
    have hw := wrapS i _ hlt hl
    have d1 := List.drop_eq_getElem_cons hlt
    have d2 := List.drop_eq_getElem_cons hlt2
    unfold c118_k0
    by_cases he : l[i] = m[i]
    · rw [d1, d2, he]
      simp only [List.cons.injEq, true_and]
      refine W_next (by rw [hc]; simp (maxSteps := 2000000) [c118_l0, hlt, hlt2, hw, he, eqCs, hlm]; with_reducible rfl) ?_
      exact ih (i + 1) _ (by omega) (by simp [hlm])
    · have hd : decide (l.drop i = m.drop i) = false := by
        rw [decide_eq_false_iff_not, d1, d2]; intro e; injection e with e _; exact he e
      rw [hd]
      exact W_ret (by rw [hc]; simp (maxSteps := 2000000) [c118_l0, hlt, hlt2, he, hlm]; with_reducible rfl) (Fin_ret (by simp [c118]))

theorem F_EQU (l m : List Bool) (hl : l.length ≤ 1000000) (hm : m.length ≤ 1000000) : F T 118 [.ro 1 (enc eBool l) false, .ro 1 (enc eBool m) false] [] = some (.bool (decide (l = m)), []) := by
  refine F_W T118 ?_
  by_cases h : l.length = m.length
  · simp only [c118, c118_b, Lift.start]
    repeat (first | refine W_assoc ?_ | refine W_go (a := .region _ _) (by simp (maxSteps := 2000000) [h]; with_reducible rfl) ?_ | refine W_go (a := .cond _ _ _) (by simp (maxSteps := 2000000) [h]; with_reducible rfl) ?_ | refine W_go (a := .block _ (.seq _ _)) (by simp (maxSteps := 2000000) [h]; with_reducible rfl) ?_)
    have := EQU_loop l m (by omega) h l.length 0
    simp only [List.drop_zero] at this
    exact this _ (by simp) (by simp [h])
  · have h1 : decide (l = m) = false := by
      rw [decide_eq_false_iff_not]; intro e; exact h (by rw [e])
    have h2 : ¬ (l.length : Int) = (m.length : Int) := by omega
    rw [h1]
    exact W_fin (ex := .ret) (by simp (maxSteps := 2000000) [c118, c118_b, h2, h]; with_reducible rfl) (by simp) (by first | (simp [c118]; done) | (simp [c118]; with_reducible rfl))


theorem V_same06 (l m : List Int) (hl : l.length ≤ 1000000) (hm : m.length ≤ 1000000) : FV (F T) 26 [.ro 1 (enc (eInt .i64) l) false, .ro 1 (enc (eInt .i64) m) false] = some (.bool (decide (l = m))) := by
  have h := FV_of (F_R06_Same l m hl hm)
  simpa using h

theorem V_clo (h : List Bool) (hl : h.length ≤ 1000000) : F T 117 [.ro 1 (enc eBool h) false] [] = some (.own 0 0 h.length, [⟨4, 1, false, enc eBool h, 0⟩]) :=
  F_cloneE T117 rfl (.inl rfl) (by omega) (by omega)

theorem r35same_loop (s1 s2 : Nat) (fl : Bool) (l1 l2 : Int) (a1 a2 : List Int) (h m : List Bool) (hl : h.length ≤ 1000000) (hlm : h.length = m.length) :
    ∀ (k i : Nat) (st : ASt), i + k = h.length → canon [2, 3, 5] st = ⟨[.top, .top, .ref 0 0 0, .ref 1 0 0, .top, .int .i64 i, .top, .top, .top, .top, .top, .top, .top, .top, .top, .top, .top, .top, .top, .top, .top, .top, .top, .top, .top, .top, .top, .top, .top, .top, .top, .top, .top, .top, .top, .top, .top, .top, .top, .top, .top, .top, .top, .top, .top, .top], [(0, ⟨106, 3, true, [[.int .i64 l1, .ro s1 (enc (eInt .i64) a1) false, .ro 1 (enc eBool h) false]], 0⟩), (1, ⟨106, 3, true, [[.int .i64 l2, .ro s2 (enc (eInt .i64) a2) fl, .ro 1 (enc eBool m) false]], 0⟩)], 2, 0⟩ →
      W T c86_k0 st (Lift.Fin c86 (.bool (decide (h.drop i = m.drop i)), [])) := by
  intro k
  induction k with
  | zero =>
    intro i st hi hc
    have h1 : ¬ i < h.length := by omega
    have e1 : h.drop i = [] := List.drop_of_length_le (by omega)
    have e2 : m.drop i = [] := List.drop_of_length_le (by omega)
    unfold c86_k0
    refine W_round hc ?_
    unfold c86_l0
    repeat (first | refine W_assoc ?_ | (show W _ (.seq (.region _ _) _) _ _; refine W_reg (by simp; with_reducible rfl) ?_) | (show R _ _ _ (_ :: _) _ _ _ _; refine R_op (by simp (maxSteps := 2000000) [h1]; with_reducible rfl) ?_) | (show R _ _ _ [] _ _ _ _; refine R_nil (by simp; with_reducible rfl) ?_) | (show W _ (.seq (.cond _ _ _) _) _ _; first | refine W_ct (by first | (simp [h1]; done) | fail) ?_ | refine W_cf (by first | (simp [h1]; done) | fail) ?_) | refine W_skip ?_ | refine W_bl (c := .seq _ _) ?_ | refine W_bl (c := .region _ _) ?_ | refine W_bl (c := .cond _ _ _) ?_ | refine W_bl (c := .block _ _) ?_ | refine W_rt ?_ | refine W_ex ?_ | refine W_end ?_ | refine W_tail (a := .region _ _) ?_ | refine W_tail (a := .cond _ _ _) ?_ | refine W_tail (a := .ret) ?_ | refine W_tail (a := .exit _) ?_ | refine W_tail (a := .block _ _) ?_ | refine QB_normal ?_ | refine QB_exit ?_ | refine QB_ret ?_ | refine QB_out (by decide) ?_ | refine QL_next ?_ | refine QL_exit ?_ | refine QL_ret ?_ | refine QL_out (by decide) ?_ | (show Fin _ _ .ret _; exact Fin_ret (by first | (simp [c86, e1, e2]; done) | (simp [c86, e1, e2]; with_reducible rfl))) | (show Fin _ _ .normal _; exact Fin_end (by first | (simp [c86, e1, e2]; done) | (simp [c86, e1, e2]; with_reducible rfl))))
  | succ k ih =>
    intro i st hi hc
    have hlt : i < h.length := by omega
    have hlt2 : i < m.length := by omega
    have hw := wrapS i _ hlt (by omega)
    have d1 := List.drop_eq_getElem_cons hlt
    have d2 := List.drop_eq_getElem_cons hlt2
    unfold c86_k0
    refine W_round hc ?_
    unfold c86_l0
    by_cases he : h[i] = m[i]
    · rw [d1, d2, he]
      simp only [List.cons.injEq, true_and]
      repeat (first | refine W_assoc ?_ | (show W _ (.seq (.region _ _) _) _ _; refine W_reg (by simp; with_reducible rfl) ?_) | (show R _ _ _ (_ :: _) _ _ _ _; refine R_op (by simp (maxSteps := 2000000) [hlt, hlt2, hw, he, hlm]; with_reducible rfl) ?_) | (show R _ _ _ [] _ _ _ _; refine R_nil (by simp; with_reducible rfl) ?_) | (show W _ (.seq (.cond _ _ _) _) _ _; first | refine W_ct (by first | (simp [hlt, hlt2, hw, he, hlm]; done) | fail) ?_ | refine W_cf (by first | (simp [hlt, hlt2, hw, he, hlm]; done) | fail) ?_) | refine W_skip ?_ | refine W_bl (c := .seq _ _) ?_ | refine W_bl (c := .region _ _) ?_ | refine W_bl (c := .cond _ _ _) ?_ | refine W_bl (c := .block _ _) ?_ | refine W_rt ?_ | refine W_ex ?_ | refine W_end ?_ | refine W_tail (a := .region _ _) ?_ | refine W_tail (a := .cond _ _ _) ?_ | refine W_tail (a := .ret) ?_ | refine W_tail (a := .exit _) ?_ | refine W_tail (a := .block _ _) ?_ | refine QB_normal ?_ | refine QB_exit ?_ | refine QB_ret ?_ | refine QB_out (by decide) ?_ | refine QL_next ?_ | refine QL_exit ?_ | refine QL_ret ?_ | refine QL_out (by decide) ?_ | (show Fin _ _ .ret _; exact Fin_ret (by first | (simp; done) | (simp; with_reducible rfl))) | (show Fin _ _ .normal _; exact Fin_end (by first | (simp; done) | (simp; with_reducible rfl))))
      refine ih (i + 1) _ ?_ ?_
      · omega
      · simp
    · have hd : decide (h.drop i = m.drop i) = false := by
        rw [decide_eq_false_iff_not, d1, d2]; intro e; injection e with e _; exact he e
      rw [hd]
      repeat (first | refine W_assoc ?_ | (show W _ (.seq (.region _ _) _) _ _; refine W_reg (by simp; with_reducible rfl) ?_) | (show R _ _ _ (_ :: _) _ _ _ _; refine R_op (by simp (maxSteps := 2000000) [hlt, hlt2, hw, he, hlm]; with_reducible rfl) ?_) | (show R _ _ _ [] _ _ _ _; refine R_nil (by simp; with_reducible rfl) ?_) | (show W _ (.seq (.cond _ _ _) _) _ _; first | refine W_ct (by first | (simp [hlt, hlt2, hw, he, hlm]; done) | fail) ?_ | refine W_cf (by first | (simp [hlt, hlt2, hw, he, hlm]; done) | fail) ?_) | refine W_skip ?_ | refine W_bl (c := .seq _ _) ?_ | refine W_bl (c := .region _ _) ?_ | refine W_bl (c := .cond _ _ _) ?_ | refine W_bl (c := .block _ _) ?_ | refine W_rt ?_ | refine W_ex ?_ | refine W_end ?_ | refine W_tail (a := .region _ _) ?_ | refine W_tail (a := .cond _ _ _) ?_ | refine W_tail (a := .ret) ?_ | refine W_tail (a := .exit _) ?_ | refine W_tail (a := .block _ _) ?_ | refine QB_normal ?_ | refine QB_exit ?_ | refine QB_ret ?_ | refine QB_out (by decide) ?_ | refine QL_next ?_ | refine QL_exit ?_ | refine QL_ret ?_ | refine QL_out (by decide) ?_ | (show Fin _ _ .ret _; exact Fin_ret (by first | (simp [c86]; done) | (simp [c86]; with_reducible rfl))) | (show Fin _ _ .normal _; exact Fin_end (by first | (simp [c86]; done) | (simp [c86]; with_reducible rfl))))

theorem V_same35 (l1 l2 : Int) (a1 a2 : List Int) (h m : List Bool) (ha1 : a1.length ≤ 1000000) (ha2 : a2.length ≤ 1000000) (hl : h.length ≤ 1000000) (hm : m.length ≤ 1000000) :
    FV (F T) 86 [.agg [.int .i64 l1, .ro 1 (enc (eInt .i64) a1) false, .ro 1 (enc eBool h) false], .agg [.int .i64 l2, .ro 1 (enc (eInt .i64) a2) false, .ro 1 (enc eBool m) false]] = some (.bool (decide (l1 = l2) && (decide (a1 = a2) && decide (h = m)))) := by
  have v1 := V_same06 a1 a2 ha1 ha2
  by_cases x1 : l1 = l2
  · by_cases x2 : a1 = a2
    · by_cases x3 : h.length = m.length
      · have hf : F T 86 [.agg [.int .i64 l1, .ro 1 (enc (eInt .i64) a1) false, .ro 1 (enc eBool h) false], .agg [.int .i64 l2, .ro 1 (enc (eInt .i64) a2) false, .ro 1 (enc eBool m) false]] [] = some (.bool (decide (h = m)), []) := by
          refine F_W T86 ?_
          simp only [c86, c86_b, Lift.start]
          simp only [x2, decide_true] at v1
          repeat (first | refine W_assoc ?_ | (show W _ (.seq (.region _ _) _) _ _; refine W_reg (by simp; with_reducible rfl) ?_) | (show R _ _ _ (_ :: _) _ _ _ _; refine R_op (by simp (maxSteps := 2000000) [x1, x2, x3, v1]; with_reducible rfl) ?_) | (show R _ _ _ [] _ _ _ _; refine R_nil (by simp; with_reducible rfl) ?_) | (show W _ (.seq (.cond _ _ _) _) _ _; first | refine W_ct (by first | (simp [x1, x2, x3, v1]; done) | fail) ?_ | refine W_cf (by first | (simp [x1, x2, x3, v1]; done) | fail) ?_) | refine W_skip ?_ | refine W_bl (c := .seq _ _) ?_ | refine W_bl (c := .region _ _) ?_ | refine W_bl (c := .cond _ _ _) ?_ | refine W_bl (c := .block _ _) ?_ | refine W_rt ?_ | refine W_ex ?_ | refine W_end ?_ | refine W_tail (a := .region _ _) ?_ | refine W_tail (a := .cond _ _ _) ?_ | refine W_tail (a := .ret) ?_ | refine W_tail (a := .exit _) ?_ | refine W_tail (a := .block _ _) ?_ | refine QB_normal ?_ | refine QB_exit ?_ | refine QB_ret ?_ | refine QB_out (by decide) ?_ | refine QL_next ?_ | refine QL_exit ?_ | refine QL_ret ?_ | refine QL_out (by decide) ?_ | (show Fin _ _ .ret _; exact Fin_ret (by first | (simp; done) | (simp; with_reducible rfl))) | (show Fin _ _ .normal _; exact Fin_end (by first | (simp; done) | (simp; with_reducible rfl))))
          have := r35same_loop 1 1 false l2 l2 a2 a2 h m hl x3 h.length 0
          simp only [List.drop_zero] at this
          refine this _ ?_ ?_
          · simp
          · simp
        have := FV_of hf
        simpa [x1, x2] using this
      · have e : decide (h = m) = false := by
          rw [decide_eq_false_iff_not]; intro e; exact x3 (by rw [e])
        have x3' : ¬ (h.length : Int) = (m.length : Int) := by omega
        simp only [x1, x2, e, decide_true, Bool.and_false]
        simp only [x2, decide_true] at v1
        refine FV_W T86 (r := ?r1) ?h1 ?v1
        case h1 =>
          simp only [c86, c86_b, Lift.start]
          repeat (first | refine W_assoc ?_ | (show W _ (.seq (.region _ _) _) _ _; refine W_reg (by simp; with_reducible rfl) ?_) | (show R _ _ _ (_ :: _) _ _ _ _; refine R_op (by simp (maxSteps := 2000000) [x1, x2, x3, x3', v1]; with_reducible rfl) ?_) | (show R _ _ _ [] _ _ _ _; refine R_nil (by simp; with_reducible rfl) ?_) | (show W _ (.seq (.cond _ _ _) _) _ _; first | refine W_ct (by first | (simp [x1, x2, x3, x3', v1]; done) | fail) ?_ | refine W_cf (by first | (simp [x1, x2, x3, x3', v1]; done) | fail) ?_) | refine W_skip ?_ | refine W_bl (c := .seq _ _) ?_ | refine W_bl (c := .region _ _) ?_ | refine W_bl (c := .cond _ _ _) ?_ | refine W_bl (c := .block _ _) ?_ | refine W_rt ?_ | refine W_ex ?_ | refine W_end ?_ | refine W_tail (a := .region _ _) ?_ | refine W_tail (a := .cond _ _ _) ?_ | refine W_tail (a := .ret) ?_ | refine W_tail (a := .exit _) ?_ | refine W_tail (a := .block _ _) ?_ | refine QB_normal ?_ | refine QB_exit ?_ | refine QB_ret ?_ | refine QB_out (by decide) ?_ | refine QL_next ?_ | refine QL_exit ?_ | refine QL_ret ?_ | refine QL_out (by decide) ?_ | (show Fin _ _ .ret _; exact Fin_ret (by first | (simp [c86]; done) | (simp [c86]; with_reducible rfl))) | (show Fin _ _ .normal _; exact Fin_end (by first | (simp [c86]; done) | (simp [c86]; with_reducible rfl))))
        case v1 => simp
    · simp only [x1, x2, decide_true, decide_false, Bool.and_false, Bool.false_and, Bool.true_and]
      simp only [x2, decide_false] at v1
      refine FV_W T86 (r := ?r2) ?h2 ?v2
      case h2 =>
        simp only [c86, c86_b, Lift.start]
        repeat (first | refine W_assoc ?_ | (show W _ (.seq (.region _ _) _) _ _; refine W_reg (by simp; with_reducible rfl) ?_) | (show R _ _ _ (_ :: _) _ _ _ _; refine R_op (by simp (maxSteps := 2000000) [x1, x2, v1]; with_reducible rfl) ?_) | (show R _ _ _ [] _ _ _ _; refine R_nil (by simp; with_reducible rfl) ?_) | (show W _ (.seq (.cond _ _ _) _) _ _; first | refine W_ct (by first | (simp [x1, x2, v1]; done) | fail) ?_ | refine W_cf (by first | (simp [x1, x2, v1]; done) | fail) ?_) | refine W_skip ?_ | refine W_bl (c := .seq _ _) ?_ | refine W_bl (c := .region _ _) ?_ | refine W_bl (c := .cond _ _ _) ?_ | refine W_bl (c := .block _ _) ?_ | refine W_rt ?_ | refine W_ex ?_ | refine W_end ?_ | refine W_tail (a := .region _ _) ?_ | refine W_tail (a := .cond _ _ _) ?_ | refine W_tail (a := .ret) ?_ | refine W_tail (a := .exit _) ?_ | refine W_tail (a := .block _ _) ?_ | refine QB_normal ?_ | refine QB_exit ?_ | refine QB_ret ?_ | refine QB_out (by decide) ?_ | refine QL_next ?_ | refine QL_exit ?_ | refine QL_ret ?_ | refine QL_out (by decide) ?_ | (show Fin _ _ .ret _; exact Fin_ret (by first | (simp [c86]; done) | (simp [c86]; with_reducible rfl))) | (show Fin _ _ .normal _; exact Fin_end (by first | (simp [c86]; done) | (simp [c86]; with_reducible rfl))))
      case v2 => simp
  · simp only [x1, decide_false, Bool.false_and]
    refine FV_W T86 (r := ?r3) ?h3 ?v3
    case h3 =>
      simp only [c86, c86_b, Lift.start]
      repeat (first | refine W_assoc ?_ | (show W _ (.seq (.region _ _) _) _ _; refine W_reg (by simp; with_reducible rfl) ?_) | (show R _ _ _ (_ :: _) _ _ _ _; refine R_op (by simp (maxSteps := 2000000) [x1]; with_reducible rfl) ?_) | (show R _ _ _ [] _ _ _ _; refine R_nil (by simp; with_reducible rfl) ?_) | (show W _ (.seq (.cond _ _ _) _) _ _; first | refine W_ct (by first | (simp [x1]; done) | fail) ?_ | refine W_cf (by first | (simp [x1]; done) | fail) ?_) | refine W_skip ?_ | refine W_bl (c := .seq _ _) ?_ | refine W_bl (c := .region _ _) ?_ | refine W_bl (c := .cond _ _ _) ?_ | refine W_bl (c := .block _ _) ?_ | refine W_rt ?_ | refine W_ex ?_ | refine W_end ?_ | refine W_tail (a := .region _ _) ?_ | refine W_tail (a := .cond _ _ _) ?_ | refine W_tail (a := .ret) ?_ | refine W_tail (a := .exit _) ?_ | refine W_tail (a := .block _ _) ?_ | refine QB_normal ?_ | refine QB_exit ?_ | refine QB_ret ?_ | refine QB_out (by decide) ?_ | refine QL_next ?_ | refine QL_exit ?_ | refine QL_ret ?_ | refine QL_out (by decide) ?_ | (show Fin _ _ .ret _; exact Fin_ret (by first | (simp [c86]; done) | (simp [c86]; with_reducible rfl))) | (show Fin _ _ .normal _; exact Fin_end (by first | (simp [c86]; done) | (simp [c86]; with_reducible rfl))))
    case v3 => simp

/-- Is a round the document's? -/
theorem V_is35 (l1 l2 : Int) (x : Nat) (hx : x < 18446744073709551616) (a2 : List Int) (h m : List Bool) (ha2 : a2.length ≤ 1000000) (hl : h.length ≤ 1000000) (hm : m.length ≤ 1000000) (e1 : l1 = l2) (e2 : lst x 64 = a2) (e3 : h = m) :
    FV (F T) 76 [.agg [.int .i64 l1, .int .u64 x, .ro 1 (enc eBool h) false], .agg [.int .i64 l2, .ro 1 (enc (eInt .i64) a2) false, .ro 1 (enc eBool m) false]] = some (.bool true) := by
  subst e1 e2 e3
  have v1 := V_R06list x hx
  have hlen := lst_len x 64
  have v2 := V_same35 l1 l1 (lst x 64) (lst x 64) h h (by omega) (by omega) hl hl
  simp only [decide_true, Bool.and_self] at v2
  refine FV_W T76 (r := ?r1) ?h1 ?v1
  case h1 =>
    simp only [c76, c76_b, Lift.start]
    repeat (first | refine W_assoc ?_ | (show W _ (.seq (.region _ _) _) _ _; refine W_reg (by simp; with_reducible rfl) ?_) | (show R _ _ _ (_ :: _) _ _ _ _; refine R_op (by simp (maxSteps := 2000000) [v1, v2]; with_reducible rfl) ?_) | (show R _ _ _ [] _ _ _ _; refine R_nil (by simp; with_reducible rfl) ?_) | (show W _ (.seq (.cond _ _ _) _) _ _; first | refine W_ct (by first | (simp [v1, v2]; done) | fail) ?_ | refine W_cf (by first | (simp [v1, v2]; done) | fail) ?_) | refine W_skip ?_ | refine W_bl (c := .seq _ _) ?_ | refine W_bl (c := .region _ _) ?_ | refine W_bl (c := .cond _ _ _) ?_ | refine W_bl (c := .block _ _) ?_ | refine W_rt ?_ | refine W_ex ?_ | refine W_end ?_ | refine W_tail (a := .region _ _) ?_ | refine W_tail (a := .cond _ _ _) ?_ | refine W_tail (a := .ret) ?_ | refine W_tail (a := .exit _) ?_ | refine W_tail (a := .block _ _) ?_ | refine QB_normal ?_ | refine QB_exit ?_ | refine QB_ret ?_ | refine QB_out (by decide) ?_ | refine QL_next ?_ | refine QL_exit ?_ | refine QL_ret ?_ | refine QL_out (by decide) ?_ | (show Fin _ _ .ret _; exact Fin_ret (by first | (simp [c76]; done) | (simp [c76]; with_reducible rfl))) | (show Fin _ _ .normal _; exact Fin_end (by first | (simp [c76]; done) | (simp [c76]; with_reducible rfl))))
  case v1 => simp

theorem V_same06e : FV (F T) 26 [.ro 1 [] false, .ro 0 [] false] = some (.bool true) := by
  have h : F T 26 [.ro 1 [] false, .ro 0 [] false] [] = some (.bool true, []) := by
    refine F_W T26 ?_
    simp only [c26, c26_b, Lift.start]
    repeat (first | refine W_assoc ?_ | (show W _ (.seq (.region _ _) _) _ _; refine W_reg (by simp; with_reducible rfl) ?_) | (show R _ _ _ (_ :: _) _ _ _ _; refine R_op (by simp (maxSteps := 2000000); with_reducible rfl) ?_) | (show R _ _ _ [] _ _ _ _; refine R_nil (by simp; with_reducible rfl) ?_) | (show W _ (.seq (.cond _ _ _) _) _ _; first | refine W_ct (by first | (simp; done) | fail) ?_ | refine W_cf (by first | (simp; done) | fail) ?_) | refine W_skip ?_ | refine W_bl (c := .seq _ _) ?_ | refine W_bl (c := .region _ _) ?_ | refine W_bl (c := .cond _ _ _) ?_ | refine W_bl (c := .block _ _) ?_ | refine W_rt ?_ | refine W_ex ?_ | refine W_end ?_ | refine W_tail (a := .region _ _) ?_ | refine W_tail (a := .cond _ _ _) ?_ | refine W_tail (a := .ret) ?_ | refine W_tail (a := .exit _) ?_ | refine W_tail (a := .block _ _) ?_ | refine QB_normal ?_ | refine QB_exit ?_ | refine QB_ret ?_ | refine QB_out (by decide) ?_ | refine QL_next ?_ | refine QL_exit ?_ | refine QL_ret ?_ | refine QL_out (by decide) ?_ | (show Fin _ _ .ret _; exact Fin_ret (by first | (simp; done) | (simp; with_reducible rfl))) | (show Fin _ _ .normal _; exact Fin_end (by first | (simp; done) | (simp; with_reducible rfl))))
    refine W_round (by simp; with_reducible rfl) ?_
    unfold c26_l0
    repeat (first | refine W_assoc ?_ | (show W _ (.seq (.region _ _) _) _ _; refine W_reg (by simp; with_reducible rfl) ?_) | (show R _ _ _ (_ :: _) _ _ _ _; refine R_op (by simp (maxSteps := 2000000); with_reducible rfl) ?_) | (show R _ _ _ [] _ _ _ _; refine R_nil (by simp; with_reducible rfl) ?_) | (show W _ (.seq (.cond _ _ _) _) _ _; first | refine W_ct (by first | (simp; done) | fail) ?_ | refine W_cf (by first | (simp; done) | fail) ?_) | refine W_skip ?_ | refine W_bl (c := .seq _ _) ?_ | refine W_bl (c := .region _ _) ?_ | refine W_bl (c := .cond _ _ _) ?_ | refine W_bl (c := .block _ _) ?_ | refine W_rt ?_ | refine W_ex ?_ | refine W_end ?_ | refine W_tail (a := .region _ _) ?_ | refine W_tail (a := .cond _ _ _) ?_ | refine W_tail (a := .ret) ?_ | refine W_tail (a := .exit _) ?_ | refine W_tail (a := .block _ _) ?_ | refine QB_normal ?_ | refine QB_exit ?_ | refine QB_ret ?_ | refine QB_out (by decide) ?_ | refine QL_next ?_ | refine QL_exit ?_ | refine QL_ret ?_ | refine QL_out (by decide) ?_ | (show Fin _ _ .ret _; exact Fin_ret (by first | (simp [c26]; done) | (simp [c26]; with_reducible rfl))) | (show Fin _ _ .normal _; exact Fin_end (by first | (simp [c26]; done) | (simp [c26]; with_reducible rfl))))
  simpa using FV_of h

theorem V_same35e (L : Int) (h : List Bool) (hl : h.length ≤ 1000000) :
    FV (F T) 86 [.agg [.int .i64 L, .ro 1 [] false, .ro 1 (enc eBool h) false], .agg [.int .i64 L, .ro 0 [] false, .ro 1 (enc eBool h) false]] = some (.bool true) := by
  have v1 := V_same06e
  have hf : F T 86 [.agg [.int .i64 L, .ro 1 [] false, .ro 1 (enc eBool h) false], .agg [.int .i64 L, .ro 0 [] false, .ro 1 (enc eBool h) false]] [] = some (.bool true, []) := by
    refine F_W T86 ?_
    simp only [c86, c86_b, Lift.start]
    repeat (first | refine W_assoc ?_ | (show W _ (.seq (.region _ _) _) _ _; refine W_reg (by simp; with_reducible rfl) ?_) | (show R _ _ _ (_ :: _) _ _ _ _; refine R_op (by simp (maxSteps := 2000000) [v1]; with_reducible rfl) ?_) | (show R _ _ _ [] _ _ _ _; refine R_nil (by simp; with_reducible rfl) ?_) | (show W _ (.seq (.cond _ _ _) _) _ _; first | refine W_ct (by first | (simp [v1]; done) | fail) ?_ | refine W_cf (by first | (simp [v1]; done) | fail) ?_) | refine W_skip ?_ | refine W_bl (c := .seq _ _) ?_ | refine W_bl (c := .region _ _) ?_ | refine W_bl (c := .cond _ _ _) ?_ | refine W_bl (c := .block _ _) ?_ | refine W_rt ?_ | refine W_ex ?_ | refine W_end ?_ | refine W_tail (a := .region _ _) ?_ | refine W_tail (a := .cond _ _ _) ?_ | refine W_tail (a := .ret) ?_ | refine W_tail (a := .exit _) ?_ | refine W_tail (a := .block _ _) ?_ | refine QB_normal ?_ | refine QB_exit ?_ | refine QB_ret ?_ | refine QB_out (by decide) ?_ | refine QL_next ?_ | refine QL_exit ?_ | refine QL_ret ?_ | refine QL_out (by decide) ?_ | (show Fin _ _ .ret _; exact Fin_ret (by first | (simp; done) | (simp; with_reducible rfl))) | (show Fin _ _ .normal _; exact Fin_end (by first | (simp; done) | (simp; with_reducible rfl))))
    have := r35same_loop 1 0 false L L [] [] h h hl rfl h.length 0
    simp only [List.drop_zero, decide_true] at this
    refine this _ ?_ ?_
    · simp
    · simp
  simpa using FV_of hf

theorem V_is35e (L : Int) (h : List Bool) (hl : h.length ≤ 1000000) :
    FV (F T) 76 [.agg [.int .i64 L, .int .u64 0, .ro 1 (enc eBool h) false], .agg [.int .i64 L, .ro 0 [] false, .ro 1 (enc eBool h) false]] = some (.bool true) := by
  have v1 := V_R06list 0 (by omega)
  have l0 : lst (0 : Nat) 64 = [] := by decide
  rw [l0] at v1
  simp only [enc_nil, Int.ofNat_zero, Int.natCast_zero, Int.cast_ofNat_Int] at v1
  have v2 := V_same35e L h hl
  refine FV_W T76 (r := ?r1) ?h1 ?v1
  case h1 =>
    simp only [c76, c76_b, Lift.start]
    repeat (first | refine W_assoc ?_ | (show W _ (.seq (.region _ _) _) _ _; refine W_reg (by simp; with_reducible rfl) ?_) | (show R _ _ _ (_ :: _) _ _ _ _; refine R_op (by simp (maxSteps := 2000000) [v1, v2]; with_reducible rfl) ?_) | (show R _ _ _ [] _ _ _ _; refine R_nil (by simp; with_reducible rfl) ?_) | (show W _ (.seq (.cond _ _ _) _) _ _; first | refine W_ct (by first | (simp [v1, v2]; done) | fail) ?_ | refine W_cf (by first | (simp [v1, v2]; done) | fail) ?_) | refine W_skip ?_ | refine W_bl (c := .seq _ _) ?_ | refine W_bl (c := .region _ _) ?_ | refine W_bl (c := .cond _ _ _) ?_ | refine W_bl (c := .block _ _) ?_ | refine W_rt ?_ | refine W_ex ?_ | refine W_end ?_ | refine W_tail (a := .region _ _) ?_ | refine W_tail (a := .cond _ _ _) ?_ | refine W_tail (a := .ret) ?_ | refine W_tail (a := .exit _) ?_ | refine W_tail (a := .block _ _) ?_ | refine QB_normal ?_ | refine QB_exit ?_ | refine QB_ret ?_ | refine QB_out (by decide) ?_ | refine QL_next ?_ | refine QL_exit ?_ | refine QL_ret ?_ | refine QL_out (by decide) ?_ | (show Fin _ _ .ret _; exact Fin_ret (by first | (simp [c76]; done) | (simp [c76]; with_reducible rfl))) | (show Fin _ _ .normal _; exact Fin_end (by first | (simp [c76]; done) | (simp [c76]; with_reducible rfl))))
  case v1 => simp

theorem V_of35 (L : Int) (l : List Int) (h : List Bool) (hl : l.length ≤ 1000000) (hh : h.length ≤ 1000000) :
    FV (F T) 72 [.agg [.int .i64 L, .ro 1 (enc (eInt .i64) l) false, .ro 1 (enc eBool h) false]] = some (.agg [.int .i64 L, .int .u64 (ofN (ofL l) 64), .ro 1 (enc eBool h) false]) := by
  have v1 := V_R06of l hl
  have hb : h.length * 1 ≤ 140737488355328 := by omega
  have hb2 : h.length ≤ 140737488355328 := by omega
  refine FV_W T72 (r := ?r1) ?h1 ?v1
  case h1 =>
    simp only [c72, c72_b, Lift.start]
    repeat (first | refine W_assoc ?_ | (show W _ (.seq (.region _ _) _) _ _; refine W_reg (by simp; with_reducible rfl) ?_) | (show R _ _ _ (_ :: _) _ _ _ _; refine R_op (by simp (maxSteps := 2000000) [v1, hb, hb2]; with_reducible rfl) ?_) | (show R _ _ _ [] _ _ _ _; refine R_nil (by simp; with_reducible rfl) ?_) | (show W _ (.seq (.cond _ _ _) _) _ _; first | refine W_ct (by first | (simp [v1, hb, hb2]; done) | fail) ?_ | refine W_cf (by first | (simp [v1, hb, hb2]; done) | fail) ?_) | refine W_skip ?_ | refine W_bl (c := .seq _ _) ?_ | refine W_bl (c := .region _ _) ?_ | refine W_bl (c := .cond _ _ _) ?_ | refine W_bl (c := .block _ _) ?_ | refine W_rt ?_ | refine W_ex ?_ | refine W_end ?_ | refine W_tail (a := .region _ _) ?_ | refine W_tail (a := .cond _ _ _) ?_ | refine W_tail (a := .ret) ?_ | refine W_tail (a := .exit _) ?_ | refine W_tail (a := .block _ _) ?_ | refine QB_normal ?_ | refine QB_exit ?_ | refine QB_ret ?_ | refine QB_out (by decide) ?_ | refine QL_next ?_ | refine QL_exit ?_ | refine QL_ret ?_ | refine QL_out (by decide) ?_ | (show Fin _ _ .ret _; exact Fin_ret (by first | (simp [c72]; done) | (simp [c72]; with_reducible rfl))) | (show Fin _ _ .normal _; exact Fin_end (by first | (simp [c72]; done) | (simp [c72]; with_reducible rfl))))
  case v1 => simp

theorem V_tick (L y : Int) (n : Int) (h : List Bool) (h1 : -9223372036854775808 ≤ L) (h2 : L ≤ 9223372036854775807) :
    FV (F T) 73 [.agg [.int .i64 L, .int .u64 y, .ro 1 (enc eBool h) false], .int .i64 n] = some (.tup [.agg [.int .i64 (if 1 < L then L - 1 else n), .int .u64 y, .ro 1 (enc eBool h) false], .bool (!decide (1 < L))]) := by
  by_cases hL : 1 < L
  · have w1 : IntKind.i64.wrap (L - 1) = L - 1 := by rw [wrap_i64 _ (by omega) (by omega)]
    simp only [hL, if_true, decide_true, Bool.not_true]
    refine FV_W T73 (r := ?r1) ?h1 ?v1
    case h1 =>
      simp only [c73, c73_b, Lift.start]
      repeat (first | refine W_assoc ?_ | (show W _ (.seq (.region _ _) _) _ _; refine W_reg (by simp; with_reducible rfl) ?_) | (show R _ _ _ (_ :: _) _ _ _ _; refine R_op (by simp (maxSteps := 2000000) [hL, w1]; with_reducible rfl) ?_) | (show R _ _ _ [] _ _ _ _; refine R_nil (by simp; with_reducible rfl) ?_) | (show W _ (.seq (.cond _ _ _) _) _ _; first | refine W_ct (by first | (simp [hL, w1]; done) | fail) ?_ | refine W_cf (by first | (simp [hL, w1]; done) | fail) ?_) | refine W_skip ?_ | refine W_bl (c := .seq _ _) ?_ | refine W_bl (c := .region _ _) ?_ | refine W_bl (c := .cond _ _ _) ?_ | refine W_bl (c := .block _ _) ?_ | refine W_rt ?_ | refine W_ex ?_ | refine W_end ?_ | refine W_tail (a := .region _ _) ?_ | refine W_tail (a := .cond _ _ _) ?_ | refine W_tail (a := .ret) ?_ | refine W_tail (a := .exit _) ?_ | refine W_tail (a := .block _ _) ?_ | refine QB_normal ?_ | refine QB_exit ?_ | refine QB_ret ?_ | refine QB_out (by decide) ?_ | refine QL_next ?_ | refine QL_exit ?_ | refine QL_ret ?_ | refine QL_out (by decide) ?_ | (show Fin _ _ .ret _; exact Fin_ret (by first | (simp [c73]; done) | (simp [c73]; with_reducible rfl))) | (show Fin _ _ .normal _; exact Fin_end (by first | (simp [c73]; done) | (simp [c73]; with_reducible rfl))))
    case v1 => simp
  · simp only [hL, if_false, decide_false, Bool.not_false]
    refine FV_W T73 (r := ?r2) ?h2 ?v2
    case h2 =>
      simp only [c73, c73_b, Lift.start]
      repeat (first | refine W_assoc ?_ | (show W _ (.seq (.region _ _) _) _ _; refine W_reg (by simp; with_reducible rfl) ?_) | (show R _ _ _ (_ :: _) _ _ _ _; refine R_op (by simp (maxSteps := 2000000) [hL]; with_reducible rfl) ?_) | (show R _ _ _ [] _ _ _ _; refine R_nil (by simp; with_reducible rfl) ?_) | (show W _ (.seq (.cond _ _ _) _) _ _; first | refine W_ct (by first | (simp [hL]; done) | fail) ?_ | refine W_cf (by first | (simp [hL]; done) | fail) ?_) | refine W_skip ?_ | refine W_bl (c := .seq _ _) ?_ | refine W_bl (c := .region _ _) ?_ | refine W_bl (c := .cond _ _ _) ?_ | refine W_bl (c := .block _ _) ?_ | refine W_rt ?_ | refine W_ex ?_ | refine W_end ?_ | refine W_tail (a := .region _ _) ?_ | refine W_tail (a := .cond _ _ _) ?_ | refine W_tail (a := .ret) ?_ | refine W_tail (a := .exit _) ?_ | refine W_tail (a := .block _ _) ?_ | refine QB_normal ?_ | refine QB_exit ?_ | refine QB_ret ?_ | refine QB_out (by decide) ?_ | refine QL_next ?_ | refine QL_exit ?_ | refine QL_ret ?_ | refine QL_out (by decide) ?_ | (show Fin _ _ .ret _; exact Fin_ret (by first | (simp [c73]; done) | (simp [c73]; with_reducible rfl))) | (show Fin _ _ .normal _; exact Fin_end (by first | (simp [c73]; done) | (simp [c73]; with_reducible rfl))))
    case v2 => simp

theorem V_R35tick (L : Int) (a : List Int) (n : Int) (h : List Bool) (h1 : -9223372036854775808 ≤ L) (h2 : L ≤ 9223372036854775807) :
    FV (F T) 74 [.agg [.int .i64 L, .ro 1 (enc (eInt .i64) a) false, .ro 1 (enc eBool h) false], .int .i64 n] = some (.tup [.agg [.int .i64 (if 1 < L then L - 1 else n), .ro 1 (enc (eInt .i64) a) false, .ro 1 (enc eBool h) false], .bool (!decide (1 < L))]) := by
  by_cases hL : 1 < L
  · have w1 : IntKind.i64.wrap (L - 1) = L - 1 := by rw [wrap_i64 _ (by omega) (by omega)]
    have hL2 : ¬ L ≤ 1 := by omega
    simp only [hL, if_true, decide_true, Bool.not_true]
    refine FV_W T74 (r := ?r1) ?h1 ?v1
    case h1 =>
      simp only [c74, c74_b, Lift.start]
      repeat (first | refine W_assoc ?_ | (show W _ (.seq (.region _ _) _) _ _; refine W_reg (by simp; with_reducible rfl) ?_) | (show R _ _ _ (_ :: _) _ _ _ _; refine R_op (by simp (maxSteps := 2000000) [hL, hL2, w1]; with_reducible rfl) ?_) | (show R _ _ _ [] _ _ _ _; refine R_nil (by simp; with_reducible rfl) ?_) | (show W _ (.seq (.cond _ _ _) _) _ _; first | refine W_ct (by first | (simp [hL, hL2, w1]; done) | fail) ?_ | refine W_cf (by first | (simp [hL, hL2, w1]; done) | fail) ?_) | refine W_skip ?_ | refine W_bl (c := .seq _ _) ?_ | refine W_bl (c := .region _ _) ?_ | refine W_bl (c := .cond _ _ _) ?_ | refine W_bl (c := .block _ _) ?_ | refine W_rt ?_ | refine W_ex ?_ | refine W_end ?_ | refine W_tail (a := .region _ _) ?_ | refine W_tail (a := .cond _ _ _) ?_ | refine W_tail (a := .ret) ?_ | refine W_tail (a := .exit _) ?_ | refine W_tail (a := .block _ _) ?_ | refine QB_normal ?_ | refine QB_exit ?_ | refine QB_ret ?_ | refine QB_out (by decide) ?_ | refine QL_next ?_ | refine QL_exit ?_ | refine QL_ret ?_ | refine QL_out (by decide) ?_ | (show Fin _ _ .ret _; exact Fin_ret (by first | (simp [c74]; done) | (simp [c74]; with_reducible rfl))) | (show Fin _ _ .normal _; exact Fin_end (by first | (simp [c74]; done) | (simp [c74]; with_reducible rfl))))
    case v1 => simp
  · have hL2 : L ≤ 1 := by omega
    simp only [hL, if_false, decide_false, Bool.not_false]
    refine FV_W T74 (r := ?r2) ?h2 ?v2
    case h2 =>
      simp only [c74, c74_b, Lift.start]
      repeat (first | refine W_assoc ?_ | (show W _ (.seq (.region _ _) _) _ _; refine W_reg (by simp; with_reducible rfl) ?_) | (show R _ _ _ (_ :: _) _ _ _ _; refine R_op (by simp (maxSteps := 2000000) [hL, hL2]; with_reducible rfl) ?_) | (show R _ _ _ [] _ _ _ _; refine R_nil (by simp; with_reducible rfl) ?_) | (show W _ (.seq (.cond _ _ _) _) _ _; first | refine W_ct (by first | (simp [hL, hL2]; done) | fail) ?_ | refine W_cf (by first | (simp [hL, hL2]; done) | fail) ?_) | refine W_skip ?_ | refine W_bl (c := .seq _ _) ?_ | refine W_bl (c := .region _ _) ?_ | refine W_bl (c := .cond _ _ _) ?_ | refine W_bl (c := .block _ _) ?_ | refine W_rt ?_ | refine W_ex ?_ | refine W_end ?_ | refine W_tail (a := .region _ _) ?_ | refine W_tail (a := .cond _ _ _) ?_ | refine W_tail (a := .ret) ?_ | refine W_tail (a := .exit _) ?_ | refine W_tail (a := .block _ _) ?_ | refine QB_normal ?_ | refine QB_exit ?_ | refine QB_ret ?_ | refine QB_out (by decide) ?_ | refine QL_next ?_ | refine QL_exit ?_ | refine QL_ret ?_ | refine QL_out (by decide) ?_ | (show Fin _ _ .ret _; exact Fin_ret (by first | (simp [c74]; done) | (simp [c74]; with_reducible rfl))) | (show Fin _ _ .normal _; exact Fin_end (by first | (simp [c74]; done) | (simp [c74]; with_reducible rfl))))
    case v2 => simp

theorem F_listp (x : Nat) (hx : x < 18446744073709551616) : FV (F T) 30 [.int .u64 x] = some (.ro 1 (enc (eInt .i64) (lst x 64)) false) := by
  have hu : inU (x : Int) := ⟨by omega, by omega⟩
  have h : F T 30 [.int .u64 x] [] = some (.own 0 0 (lst x 64).length, [⟨3, 1, false, enc (eInt .i64) (lst x 64), 0⟩]) :=
    F_iff.2 ⟨1, by simp [runBoth, T30, runFn, c30, listR, hu]⟩
  simpa using FV_of h

theorem V_over (L : Int) (x : Nat) (hx : x < 18446744073709551616) (n : Int) (h : List Bool) :
    FV (F T) 75 [.agg [.int .i64 L, .int .u64 x, .ro 1 (enc eBool h) false], .int .i64 n] = some (.tup [.agg [.int .i64 L, .int .u64 0, .ro 1 (enc eBool h) false], .ro 1 (enc (eInt .i64) (lst (wo x n : Nat) 64)) false]) := by
  have v1 := V_without x hx n
  have v2 := F_listp (wo x n) (wo_lt x n)
  generalize wo x n = y at v1 v2
  refine FV_W T75 (r := ?r1) ?h1 ?v1
  case h1 =>
    simp only [c75, c75_b, Lift.start]
    repeat (first | refine W_assoc ?_ | (show W _ (.seq (.region _ _) _) _ _; refine W_reg (by simp; with_reducible rfl) ?_) | (show R _ _ _ (_ :: _) _ _ _ _; refine R_op (by simp (maxSteps := 2000000) [v1, v2]; with_reducible rfl) ?_) | (show R _ _ _ [] _ _ _ _; refine R_nil (by simp; with_reducible rfl) ?_) | (show W _ (.seq (.cond _ _ _) _) _ _; first | refine W_ct (by first | (simp [v1, v2]; done) | fail) ?_ | refine W_cf (by first | (simp [v1, v2]; done) | fail) ?_) | refine W_skip ?_ | refine W_bl (c := .seq _ _) ?_ | refine W_bl (c := .region _ _) ?_ | refine W_bl (c := .cond _ _ _) ?_ | refine W_bl (c := .block _ _) ?_ | refine W_rt ?_ | refine W_ex ?_ | refine W_end ?_ | refine W_tail (a := .region _ _) ?_ | refine W_tail (a := .cond _ _ _) ?_ | refine W_tail (a := .ret) ?_ | refine W_tail (a := .exit _) ?_ | refine W_tail (a := .block _ _) ?_ | refine QB_normal ?_ | refine QB_exit ?_ | refine QB_ret ?_ | refine QB_out (by decide) ?_ | refine QL_next ?_ | refine QL_exit ?_ | refine QL_ret ?_ | refine QL_out (by decide) ?_ | (show Fin _ _ .ret _; exact Fin_ret (by first | (simp [c75]; done) | (simp [c75]; with_reducible rfl))) | (show Fin _ _ .normal _; exact Fin_end (by first | (simp [c75]; done) | (simp [c75]; with_reducible rfl))))
  case v1 => simp

theorem V_full (L : Int) (x : Nat) (hx : x < 18446744073709551616) (n : Int) (h : List Bool) :
    FV (F T) 82 [.agg [.int .i64 L, .int .u64 x, .ro 1 (enc eBool h) false], .int .i64 n] = some (.agg [.int .i64 L, .int .u64 (wo x n : Nat), .ro 1 (enc eBool h) false]) := by
  have v1 := V_without x hx n
  generalize wo x n = y at v1 ⊢
  refine FV_W T82 (r := ?r1) ?h1 ?v1
  case h1 =>
    simp only [c82, c82_b, Lift.start]
    repeat (first | refine W_assoc ?_ | (show W _ (.seq (.region _ _) _) _ _; refine W_reg (by simp; with_reducible rfl) ?_) | (show R _ _ _ (_ :: _) _ _ _ _; refine R_op (by simp (maxSteps := 2000000) [v1]; with_reducible rfl) ?_) | (show R _ _ _ [] _ _ _ _; refine R_nil (by simp; with_reducible rfl) ?_) | (show W _ (.seq (.cond _ _ _) _) _ _; first | refine W_ct (by first | (simp [v1]; done) | fail) ?_ | refine W_cf (by first | (simp [v1]; done) | fail) ?_) | refine W_skip ?_ | refine W_bl (c := .seq _ _) ?_ | refine W_bl (c := .region _ _) ?_ | refine W_bl (c := .cond _ _ _) ?_ | refine W_bl (c := .block _ _) ?_ | refine W_rt ?_ | refine W_ex ?_ | refine W_end ?_ | refine W_tail (a := .region _ _) ?_ | refine W_tail (a := .cond _ _ _) ?_ | refine W_tail (a := .ret) ?_ | refine W_tail (a := .exit _) ?_ | refine W_tail (a := .block _ _) ?_ | refine QB_normal ?_ | refine QB_exit ?_ | refine QB_ret ?_ | refine QB_out (by decide) ?_ | refine QL_next ?_ | refine QL_exit ?_ | refine QL_ret ?_ | refine QL_out (by decide) ?_ | (show Fin _ _ .ret _; exact Fin_ret (by first | (simp [c82]; done) | (simp [c82]; with_reducible rfl))) | (show Fin _ _ .normal _; exact Fin_end (by first | (simp [c82]; done) | (simp [c82]; with_reducible rfl))))
  case v1 => simp

theorem V_R35full (L : Int) (a : List Int) (ha : a.length ≤ 1000000) (n : Int) (h : List Bool) :
    FV (F T) 77 [.agg [.int .i64 L, .ro 1 (enc (eInt .i64) a) false, .ro 1 (enc eBool h) false], .int .i64 n] = some (.agg [.int .i64 L, .ro 1 (enc (eInt .i64) (lst (wo (ofN (ofL a) 64) n : Nat) 64)) false, .ro 1 (enc eBool h) false]) := by
  have v1 := V_R06of a ha
  have v2 := V_R06without (ofN (ofL a) 64) (ofN64_lt _) n
  have v3 := V_R06list (wo (ofN (ofL a) 64) n) (wo_lt _ n)
  generalize wo (ofN (ofL a) 64) n = y at v2 v3 ⊢
  generalize ofN (ofL a) 64 = z at v1 v2
  refine FV_W T77 (r := ?r1) ?h1 ?v1
  case h1 =>
    simp only [c77, c77_b, Lift.start]
    repeat (first | refine W_assoc ?_ | (show W _ (.seq (.region _ _) _) _ _; refine W_reg (by simp; with_reducible rfl) ?_) | (show R _ _ _ (_ :: _) _ _ _ _; refine R_op (by simp (maxSteps := 2000000) [v1, v2, v3]; with_reducible rfl) ?_) | (show R _ _ _ [] _ _ _ _; refine R_nil (by simp; with_reducible rfl) ?_) | (show W _ (.seq (.cond _ _ _) _) _ _; first | refine W_ct (by first | (simp [v1, v2, v3]; done) | fail) ?_ | refine W_cf (by first | (simp [v1, v2, v3]; done) | fail) ?_) | refine W_skip ?_ | refine W_bl (c := .seq _ _) ?_ | refine W_bl (c := .region _ _) ?_ | refine W_bl (c := .cond _ _ _) ?_ | refine W_bl (c := .block _ _) ?_ | refine W_rt ?_ | refine W_ex ?_ | refine W_end ?_ | refine W_tail (a := .region _ _) ?_ | refine W_tail (a := .cond _ _ _) ?_ | refine W_tail (a := .ret) ?_ | refine W_tail (a := .exit _) ?_ | refine W_tail (a := .block _ _) ?_ | refine QB_normal ?_ | refine QB_exit ?_ | refine QB_ret ?_ | refine QB_out (by decide) ?_ | refine QL_next ?_ | refine QL_exit ?_ | refine QL_ret ?_ | refine QL_out (by decide) ?_ | (show Fin _ _ .ret _; exact Fin_ret (by first | (simp [c77]; done) | (simp [c77]; with_reducible rfl))) | (show Fin _ _ .normal _; exact Fin_end (by first | (simp [c77]; done) | (simp [c77]; with_reducible rfl))))
  case v1 => simp

/-- Had, with one more. -/
def hd (h : List Bool) (n : Int) : List Bool := if 0 ≤ n ∧ n < h.length then h.set n.toNat true else h

theorem V_came (L : Int) (x : Nat) (n : Int) (h : List Bool) (hh : h.length ≤ 1000000) :
    FV (F T) 83 [.agg [.int .i64 L, .int .u64 x, .ro 1 (enc eBool h) false], .int .i64 n] = some (.agg [.int .i64 L, .int .u64 x, .ro 1 (enc eBool (hd h n)) false]) := by
  have v1 := V_clo h hh
  unfold hd
  by_cases h1 : 0 ≤ n
  · by_cases h2 : n < h.length
    · obtain ⟨m, rfl⟩ := Int.eq_ofNat_of_zero_le h1
      have hm : m < h.length := by omega
      rw [if_pos ⟨h1, h2⟩]
      simp only [Int.toNat_natCast]
      refine FV_W T83 (r := ?r1) ?h1 ?v1
      case h1 =>
        simp only [c83, c83_b, Lift.start]
        repeat (first | refine W_assoc ?_ | (show W _ (.seq (.region _ _) _) _ _; refine W_reg (by simp; with_reducible rfl) ?_) | (show R _ _ _ (_ :: _) _ _ _ _; refine R_op (by simp (maxSteps := 2000000) [v1, h1, h2, hm]; with_reducible rfl) ?_) | (show R _ _ _ [] _ _ _ _; refine R_nil (by simp; with_reducible rfl) ?_) | (show W _ (.seq (.cond _ _ _) _) _ _; first | refine W_ct (by first | (simp [v1, h1, h2, hm]; done) | fail) ?_ | refine W_cf (by first | (simp [v1, h1, h2, hm]; done) | fail) ?_) | refine W_skip ?_ | refine W_bl (c := .seq _ _) ?_ | refine W_bl (c := .region _ _) ?_ | refine W_bl (c := .cond _ _ _) ?_ | refine W_bl (c := .block _ _) ?_ | refine W_rt ?_ | refine W_ex ?_ | refine W_end ?_ | refine W_tail (a := .region _ _) ?_ | refine W_tail (a := .cond _ _ _) ?_ | refine W_tail (a := .ret) ?_ | refine W_tail (a := .exit _) ?_ | refine W_tail (a := .block _ _) ?_ | refine QB_normal ?_ | refine QB_exit ?_ | refine QB_ret ?_ | refine QB_out (by decide) ?_ | refine QL_next ?_ | refine QL_exit ?_ | refine QL_ret ?_ | refine QL_out (by decide) ?_ | (show Fin _ _ .ret _; exact Fin_ret (by first | (simp [c83]; done) | (simp [c83]; with_reducible rfl))) | (show Fin _ _ .normal _; exact Fin_end (by first | (simp [c83]; done) | (simp [c83]; with_reducible rfl))))
      case v1 =>
        have ht : (h.set m true).take h.length = h.set m true := List.take_of_length_le (by simp)
        simp [ht]
    · rw [if_neg (by omega)]
      refine FV_W T83 (r := ?r2) ?h2 ?v2
      case h2 =>
        simp only [c83, c83_b, Lift.start]
        repeat (first | refine W_assoc ?_ | (show W _ (.seq (.region _ _) _) _ _; refine W_reg (by simp; with_reducible rfl) ?_) | (show R _ _ _ (_ :: _) _ _ _ _; refine R_op (by simp (maxSteps := 2000000) [v1, h1, h2]; with_reducible rfl) ?_) | (show R _ _ _ [] _ _ _ _; refine R_nil (by simp; with_reducible rfl) ?_) | (show W _ (.seq (.cond _ _ _) _) _ _; first | refine W_ct (by first | (simp [v1, h1, h2]; done) | fail) ?_ | refine W_cf (by first | (simp [v1, h1, h2]; done) | fail) ?_) | refine W_skip ?_ | refine W_bl (c := .seq _ _) ?_ | refine W_bl (c := .region _ _) ?_ | refine W_bl (c := .cond _ _ _) ?_ | refine W_bl (c := .block _ _) ?_ | refine W_rt ?_ | refine W_ex ?_ | refine W_end ?_ | refine W_tail (a := .region _ _) ?_ | refine W_tail (a := .cond _ _ _) ?_ | refine W_tail (a := .ret) ?_ | refine W_tail (a := .exit _) ?_ | refine W_tail (a := .block _ _) ?_ | refine QB_normal ?_ | refine QB_exit ?_ | refine QB_ret ?_ | refine QB_out (by decide) ?_ | refine QL_next ?_ | refine QL_exit ?_ | refine QL_ret ?_ | refine QL_out (by decide) ?_ | (show Fin _ _ .ret _; exact Fin_ret (by first | (simp [c83]; done) | (simp [c83]; with_reducible rfl))) | (show Fin _ _ .normal _; exact Fin_end (by first | (simp [c83]; done) | (simp [c83]; with_reducible rfl))))
      case v2 => simp
  · rw [if_neg (by omega)]
    refine FV_W T83 (r := ?r3) ?h3 ?v3
    case h3 =>
      simp only [c83, c83_b, Lift.start]
      repeat (first | refine W_assoc ?_ | (show W _ (.seq (.region _ _) _) _ _; refine W_reg (by simp; with_reducible rfl) ?_) | (show R _ _ _ (_ :: _) _ _ _ _; refine R_op (by simp (maxSteps := 2000000) [v1, h1]; with_reducible rfl) ?_) | (show R _ _ _ [] _ _ _ _; refine R_nil (by simp; with_reducible rfl) ?_) | (show W _ (.seq (.cond _ _ _) _) _ _; first | refine W_ct (by first | (simp [v1, h1]; done) | fail) ?_ | refine W_cf (by first | (simp [v1, h1]; done) | fail) ?_) | refine W_skip ?_ | refine W_bl (c := .seq _ _) ?_ | refine W_bl (c := .region _ _) ?_ | refine W_bl (c := .cond _ _ _) ?_ | refine W_bl (c := .block _ _) ?_ | refine W_rt ?_ | refine W_ex ?_ | refine W_end ?_ | refine W_tail (a := .region _ _) ?_ | refine W_tail (a := .cond _ _ _) ?_ | refine W_tail (a := .ret) ?_ | refine W_tail (a := .exit _) ?_ | refine W_tail (a := .block _ _) ?_ | refine QB_normal ?_ | refine QB_exit ?_ | refine QB_ret ?_ | refine QB_out (by decide) ?_ | refine QL_next ?_ | refine QL_exit ?_ | refine QL_ret ?_ | refine QL_out (by decide) ?_ | (show Fin _ _ .ret _; exact Fin_ret (by first | (simp [c83]; done) | (simp [c83]; with_reducible rfl))) | (show Fin _ _ .normal _; exact Fin_end (by first | (simp [c83]; done) | (simp [c83]; with_reducible rfl))))
    case v3 => simp

theorem V_R35came (L : Int) (a : List Int) (n : Int) (h : List Bool) (hh : h.length ≤ 1000000) :
    FV (F T) 84 [.agg [.int .i64 L, .ro 1 (enc (eInt .i64) a) false, .ro 1 (enc eBool h) false], .int .i64 n] = some (.agg [.int .i64 L, .ro 1 (enc (eInt .i64) a) false, .ro 1 (enc eBool (hd h n)) false]) := by
  have hb : h.length * 1 ≤ 140737488355328 := by omega
  have hb2 : h.length ≤ 140737488355328 := by omega
  unfold hd
  by_cases h1 : 0 ≤ n
  · by_cases h2 : n < h.length
    · obtain ⟨m, rfl⟩ := Int.eq_ofNat_of_zero_le h1
      have hm : m < h.length := by omega
      rw [if_pos ⟨h1, h2⟩]
      simp only [Int.toNat_natCast]
      refine FV_W T84 (r := ?r1) ?h1 ?v1
      case h1 =>
        simp only [c84, c84_b, Lift.start]
        repeat (first | refine W_assoc ?_ | (show W _ (.seq (.region _ _) _) _ _; refine W_reg (by simp; with_reducible rfl) ?_) | (show R _ _ _ (_ :: _) _ _ _ _; refine R_op (by simp (maxSteps := 2000000) [hb, hb2, h1, h2, hm]; with_reducible rfl) ?_) | (show R _ _ _ [] _ _ _ _; refine R_nil (by simp; with_reducible rfl) ?_) | (show W _ (.seq (.cond _ _ _) _) _ _; first | refine W_ct (by first | (simp [hb, hb2, h1, h2, hm]; done) | fail) ?_ | refine W_cf (by first | (simp [hb, hb2, h1, h2, hm]; done) | fail) ?_) | refine W_skip ?_ | refine W_bl (c := .seq _ _) ?_ | refine W_bl (c := .region _ _) ?_ | refine W_bl (c := .cond _ _ _) ?_ | refine W_bl (c := .block _ _) ?_ | refine W_rt ?_ | refine W_ex ?_ | refine W_end ?_ | refine W_tail (a := .region _ _) ?_ | refine W_tail (a := .cond _ _ _) ?_ | refine W_tail (a := .ret) ?_ | refine W_tail (a := .exit _) ?_ | refine W_tail (a := .block _ _) ?_ | refine QB_normal ?_ | refine QB_exit ?_ | refine QB_ret ?_ | refine QB_out (by decide) ?_ | refine QL_next ?_ | refine QL_exit ?_ | refine QL_ret ?_ | refine QL_out (by decide) ?_ | (show Fin _ _ .ret _; exact Fin_ret (by first | (simp [c84]; done) | (simp [c84]; with_reducible rfl))) | (show Fin _ _ .normal _; exact Fin_end (by first | (simp [c84]; done) | (simp [c84]; with_reducible rfl))))
      case v1 =>
        have ht : (h.set m true).take h.length = h.set m true := List.take_of_length_le (by simp)
        simp [ht]
    · rw [if_neg (by omega)]
      refine FV_W T84 (r := ?r2) ?h2 ?v2
      case h2 =>
        simp only [c84, c84_b, Lift.start]
        repeat (first | refine W_assoc ?_ | (show W _ (.seq (.region _ _) _) _ _; refine W_reg (by simp; with_reducible rfl) ?_) | (show R _ _ _ (_ :: _) _ _ _ _; refine R_op (by simp (maxSteps := 2000000) [hb, hb2, h1, h2]; with_reducible rfl) ?_) | (show R _ _ _ [] _ _ _ _; refine R_nil (by simp; with_reducible rfl) ?_) | (show W _ (.seq (.cond _ _ _) _) _ _; first | refine W_ct (by first | (simp [hb, hb2, h1, h2]; done) | fail) ?_ | refine W_cf (by first | (simp [hb, hb2, h1, h2]; done) | fail) ?_) | refine W_skip ?_ | refine W_bl (c := .seq _ _) ?_ | refine W_bl (c := .region _ _) ?_ | refine W_bl (c := .cond _ _ _) ?_ | refine W_bl (c := .block _ _) ?_ | refine W_rt ?_ | refine W_ex ?_ | refine W_end ?_ | refine W_tail (a := .region _ _) ?_ | refine W_tail (a := .cond _ _ _) ?_ | refine W_tail (a := .ret) ?_ | refine W_tail (a := .exit _) ?_ | refine W_tail (a := .block _ _) ?_ | refine QB_normal ?_ | refine QB_exit ?_ | refine QB_ret ?_ | refine QB_out (by decide) ?_ | refine QL_next ?_ | refine QL_exit ?_ | refine QL_ret ?_ | refine QL_out (by decide) ?_ | (show Fin _ _ .ret _; exact Fin_ret (by first | (simp [c84]; done) | (simp [c84]; with_reducible rfl))) | (show Fin _ _ .normal _; exact Fin_end (by first | (simp [c84]; done) | (simp [c84]; with_reducible rfl))))
      case v2 => simp
  · rw [if_neg (by omega)]
    refine FV_W T84 (r := ?r3) ?h3 ?v3
    case h3 =>
      simp only [c84, c84_b, Lift.start]
      repeat (first | refine W_assoc ?_ | (show W _ (.seq (.region _ _) _) _ _; refine W_reg (by simp; with_reducible rfl) ?_) | (show R _ _ _ (_ :: _) _ _ _ _; refine R_op (by simp (maxSteps := 2000000) [hb, hb2, h1]; with_reducible rfl) ?_) | (show R _ _ _ [] _ _ _ _; refine R_nil (by simp; with_reducible rfl) ?_) | (show W _ (.seq (.cond _ _ _) _) _ _; first | refine W_ct (by first | (simp [hb, hb2, h1]; done) | fail) ?_ | refine W_cf (by first | (simp [hb, hb2, h1]; done) | fail) ?_) | refine W_skip ?_ | refine W_bl (c := .seq _ _) ?_ | refine W_bl (c := .region _ _) ?_ | refine W_bl (c := .cond _ _ _) ?_ | refine W_bl (c := .block _ _) ?_ | refine W_rt ?_ | refine W_ex ?_ | refine W_end ?_ | refine W_tail (a := .region _ _) ?_ | refine W_tail (a := .cond _ _ _) ?_ | refine W_tail (a := .ret) ?_ | refine W_tail (a := .exit _) ?_ | refine W_tail (a := .block _ _) ?_ | refine QB_normal ?_ | refine QB_exit ?_ | refine QB_ret ?_ | refine QB_out (by decide) ?_ | refine QL_next ?_ | refine QL_exit ?_ | refine QL_ret ?_ | refine QL_out (by decide) ?_ | (show Fin _ _ .ret _; exact Fin_ret (by first | (simp [c84]; done) | (simp [c84]; with_reducible rfl))) | (show Fin _ _ .normal _; exact Fin_end (by first | (simp [c84]; done) | (simp [c84]; with_reducible rfl))))
    case v3 => simp

/-- How many tasks may be noted. -/
def cl (n : Int) : Nat := if n < 0 then 0 else if 16 < n then 16 else n.toNat

theorem V_new (n : Int) : FV (F T) 78 [.int .i64 n] = some (.agg [.int .i64 1, .int .u64 0, .ro 1 (enc eBool (List.replicate (cl n) false)) false]) := by
  unfold cl
  by_cases h1 : n < 0
  · rw [if_pos h1]
    refine FV_W T78 (r := ?r1) ?h1 ?v1
    case h1 =>
      simp only [c78, c78_b, Lift.start]
      repeat (first | refine W_assoc ?_ | (show W _ (.seq (.region _ _) _) _ _; refine W_reg (by simp; with_reducible rfl) ?_) | (show R _ _ _ (_ :: _) _ _ _ _; refine R_op (by simp (maxSteps := 2000000) [h1]; with_reducible rfl) ?_) | (show R _ _ _ [] _ _ _ _; refine R_nil (by simp; with_reducible rfl) ?_) | (show W _ (.seq (.cond _ _ _) _) _ _; first | refine W_ct (by first | (simp [h1]; done) | fail) ?_ | refine W_cf (by first | (simp [h1]; done) | fail) ?_) | refine W_skip ?_ | refine W_bl (c := .seq _ _) ?_ | refine W_bl (c := .region _ _) ?_ | refine W_bl (c := .cond _ _ _) ?_ | refine W_bl (c := .block _ _) ?_ | refine W_rt ?_ | refine W_ex ?_ | refine W_end ?_ | refine W_tail (a := .region _ _) ?_ | refine W_tail (a := .cond _ _ _) ?_ | refine W_tail (a := .ret) ?_ | refine W_tail (a := .exit _) ?_ | refine W_tail (a := .block _ _) ?_ | refine QB_normal ?_ | refine QB_exit ?_ | refine QB_ret ?_ | refine QB_out (by decide) ?_ | refine QL_next ?_ | refine QL_exit ?_ | refine QL_ret ?_ | refine QL_out (by decide) ?_ | (show Fin _ _ .ret _; exact Fin_ret (by first | (simp [c78]; done) | (simp [c78]; with_reducible rfl))) | (show Fin _ _ .normal _; exact Fin_end (by first | (simp [c78]; done) | (simp [c78]; with_reducible rfl))))
    case v1 => simp
  · rw [if_neg h1]
    by_cases h2 : 16 < n
    · rw [if_pos h2]
      refine FV_W T78 (r := ?r2) ?h2 ?v2
      case h2 =>
        simp only [c78, c78_b, Lift.start]
        repeat (first | refine W_assoc ?_ | (show W _ (.seq (.region _ _) _) _ _; refine W_reg (by simp; with_reducible rfl) ?_) | (show R _ _ _ (_ :: _) _ _ _ _; refine R_op (by simp (maxSteps := 2000000) [h1, h2]; with_reducible rfl) ?_) | (show R _ _ _ [] _ _ _ _; refine R_nil (by simp; with_reducible rfl) ?_) | (show W _ (.seq (.cond _ _ _) _) _ _; first | refine W_ct (by first | (simp [h1, h2]; done) | fail) ?_ | refine W_cf (by first | (simp [h1, h2]; done) | fail) ?_) | refine W_skip ?_ | refine W_bl (c := .seq _ _) ?_ | refine W_bl (c := .region _ _) ?_ | refine W_bl (c := .cond _ _ _) ?_ | refine W_bl (c := .block _ _) ?_ | refine W_rt ?_ | refine W_ex ?_ | refine W_end ?_ | refine W_tail (a := .region _ _) ?_ | refine W_tail (a := .cond _ _ _) ?_ | refine W_tail (a := .ret) ?_ | refine W_tail (a := .exit _) ?_ | refine W_tail (a := .block _ _) ?_ | refine QB_normal ?_ | refine QB_exit ?_ | refine QB_ret ?_ | refine QB_out (by decide) ?_ | refine QL_next ?_ | refine QL_exit ?_ | refine QL_ret ?_ | refine QL_out (by decide) ?_ | (show Fin _ _ .ret _; exact Fin_ret (by first | (simp [c78]; done) | (simp [c78]; with_reducible rfl))) | (show Fin _ _ .normal _; exact Fin_end (by first | (simp [c78]; done) | (simp [c78]; with_reducible rfl))))
      case v2 => simp
    · rw [if_neg h2]
      obtain ⟨m, rfl⟩ := Int.eq_ofNat_of_zero_le (show 0 ≤ n by omega)
      have g1 : ¬ 16 < m := by omega
      have g2 : m ≤ 140737488355328 := by omega
      have g3 : (m : Int) ≤ 140737488355328 := by omega
      have g4 : (0 : Int) ≤ m := by omega
      refine FV_W T78 (r := ?r3) ?h3 ?v3
      case h3 =>
        simp only [c78, c78_b, Lift.start]
        repeat (first | refine W_assoc ?_ | (show W _ (.seq (.region _ _) _) _ _; refine W_reg (by simp; with_reducible rfl) ?_) | (show R _ _ _ (_ :: _) _ _ _ _; refine R_op (by simp (maxSteps := 2000000) [h1, h2, g1, g2, g3, g4]; with_reducible rfl) ?_) | (show R _ _ _ [] _ _ _ _; refine R_nil (by simp; with_reducible rfl) ?_) | (show W _ (.seq (.cond _ _ _) _) _ _; first | refine W_ct (by first | (simp [h1, h2, g1, g2, g3, g4]; done) | fail) ?_ | refine W_cf (by first | (simp [h1, h2, g1, g2, g3, g4]; done) | fail) ?_) | refine W_skip ?_ | refine W_bl (c := .seq _ _) ?_ | refine W_bl (c := .region _ _) ?_ | refine W_bl (c := .cond _ _ _) ?_ | refine W_bl (c := .block _ _) ?_ | refine W_rt ?_ | refine W_ex ?_ | refine W_end ?_ | refine W_tail (a := .region _ _) ?_ | refine W_tail (a := .cond _ _ _) ?_ | refine W_tail (a := .ret) ?_ | refine W_tail (a := .exit _) ?_ | refine W_tail (a := .block _ _) ?_ | refine QB_normal ?_ | refine QB_exit ?_ | refine QB_ret ?_ | refine QB_out (by decide) ?_ | refine QL_next ?_ | refine QL_exit ?_ | refine QL_ret ?_ | refine QL_out (by decide) ?_ | (show Fin _ _ .ret _; exact Fin_ret (by first | (simp [c78]; done) | (simp [c78]; with_reducible rfl))) | (show Fin _ _ .normal _; exact Fin_end (by first | (simp [c78]; done) | (simp [c78]; with_reducible rfl))))
      case v3 => simp

theorem V_R35new (n : Int) : FV (F T) 79 [.int .i64 n] = some (.agg [.int .i64 1, .ro 1 [] true, .ro 1 (enc eBool (List.replicate (cl n) false)) false]) := by
  unfold cl
  by_cases h1 : n < 0
  · rw [if_pos h1]
    refine FV_W T79 (r := ?r1) ?h1 ?v1
    case h1 =>
      simp only [c79, c79_b, Lift.start]
      repeat (first | refine W_assoc ?_ | (show W _ (.seq (.region _ _) _) _ _; refine W_reg (by simp; with_reducible rfl) ?_) | (show R _ _ _ (_ :: _) _ _ _ _; refine R_op (by simp (maxSteps := 2000000) [h1]; with_reducible rfl) ?_) | (show R _ _ _ [] _ _ _ _; refine R_nil (by simp; with_reducible rfl) ?_) | (show W _ (.seq (.cond _ _ _) _) _ _; first | refine W_ct (by first | (simp [h1]; done) | fail) ?_ | refine W_cf (by first | (simp [h1]; done) | fail) ?_) | refine W_skip ?_ | refine W_bl (c := .seq _ _) ?_ | refine W_bl (c := .region _ _) ?_ | refine W_bl (c := .cond _ _ _) ?_ | refine W_bl (c := .block _ _) ?_ | refine W_rt ?_ | refine W_ex ?_ | refine W_end ?_ | refine W_tail (a := .region _ _) ?_ | refine W_tail (a := .cond _ _ _) ?_ | refine W_tail (a := .ret) ?_ | refine W_tail (a := .exit _) ?_ | refine W_tail (a := .block _ _) ?_ | refine QB_normal ?_ | refine QB_exit ?_ | refine QB_ret ?_ | refine QB_out (by decide) ?_ | refine QL_next ?_ | refine QL_exit ?_ | refine QL_ret ?_ | refine QL_out (by decide) ?_ | (show Fin _ _ .ret _; exact Fin_ret (by first | (simp [c79]; done) | (simp [c79]; with_reducible rfl))) | (show Fin _ _ .normal _; exact Fin_end (by first | (simp [c79]; done) | (simp [c79]; with_reducible rfl))))
    case v1 => simp
  · rw [if_neg h1]
    by_cases h2 : 16 < n
    · rw [if_pos h2]
      refine FV_W T79 (r := ?r2) ?h2 ?v2
      case h2 =>
        simp only [c79, c79_b, Lift.start]
        repeat (first | refine W_assoc ?_ | (show W _ (.seq (.region _ _) _) _ _; refine W_reg (by simp; with_reducible rfl) ?_) | (show R _ _ _ (_ :: _) _ _ _ _; refine R_op (by simp (maxSteps := 2000000) [h1, h2]; with_reducible rfl) ?_) | (show R _ _ _ [] _ _ _ _; refine R_nil (by simp; with_reducible rfl) ?_) | (show W _ (.seq (.cond _ _ _) _) _ _; first | refine W_ct (by first | (simp [h1, h2]; done) | fail) ?_ | refine W_cf (by first | (simp [h1, h2]; done) | fail) ?_) | refine W_skip ?_ | refine W_bl (c := .seq _ _) ?_ | refine W_bl (c := .region _ _) ?_ | refine W_bl (c := .cond _ _ _) ?_ | refine W_bl (c := .block _ _) ?_ | refine W_rt ?_ | refine W_ex ?_ | refine W_end ?_ | refine W_tail (a := .region _ _) ?_ | refine W_tail (a := .cond _ _ _) ?_ | refine W_tail (a := .ret) ?_ | refine W_tail (a := .exit _) ?_ | refine W_tail (a := .block _ _) ?_ | refine QB_normal ?_ | refine QB_exit ?_ | refine QB_ret ?_ | refine QB_out (by decide) ?_ | refine QL_next ?_ | refine QL_exit ?_ | refine QL_ret ?_ | refine QL_out (by decide) ?_ | (show Fin _ _ .ret _; exact Fin_ret (by first | (simp [c79]; done) | (simp [c79]; with_reducible rfl))) | (show Fin _ _ .normal _; exact Fin_end (by first | (simp [c79]; done) | (simp [c79]; with_reducible rfl))))
      case v2 => simp
    · rw [if_neg h2]
      obtain ⟨m, rfl⟩ := Int.eq_ofNat_of_zero_le (show 0 ≤ n by omega)
      have g1 : ¬ 16 < m := by omega
      have g2 : m ≤ 140737488355328 := by omega
      have g3 : (m : Int) ≤ 140737488355328 := by omega
      have g4 : (0 : Int) ≤ m := by omega
      refine FV_W T79 (r := ?r3) ?h3 ?v3
      case h3 =>
        simp only [c79, c79_b, Lift.start]
        repeat (first | refine W_assoc ?_ | (show W _ (.seq (.region _ _) _) _ _; refine W_reg (by simp; with_reducible rfl) ?_) | (show R _ _ _ (_ :: _) _ _ _ _; refine R_op (by simp (maxSteps := 2000000) [h1, h2, g1, g2, g3, g4]; with_reducible rfl) ?_) | (show R _ _ _ [] _ _ _ _; refine R_nil (by simp; with_reducible rfl) ?_) | (show W _ (.seq (.cond _ _ _) _) _ _; first | refine W_ct (by first | (simp [h1, h2, g1, g2, g3, g4]; done) | fail) ?_ | refine W_cf (by first | (simp [h1, h2, g1, g2, g3, g4]; done) | fail) ?_) | refine W_skip ?_ | refine W_bl (c := .seq _ _) ?_ | refine W_bl (c := .region _ _) ?_ | refine W_bl (c := .cond _ _ _) ?_ | refine W_bl (c := .block _ _) ?_ | refine W_rt ?_ | refine W_ex ?_ | refine W_end ?_ | refine W_tail (a := .region _ _) ?_ | refine W_tail (a := .cond _ _ _) ?_ | refine W_tail (a := .ret) ?_ | refine W_tail (a := .exit _) ?_ | refine W_tail (a := .block _ _) ?_ | refine QB_normal ?_ | refine QB_exit ?_ | refine QB_ret ?_ | refine QB_out (by decide) ?_ | refine QL_next ?_ | refine QL_exit ?_ | refine QL_ret ?_ | refine QL_out (by decide) ?_ | (show Fin _ _ .ret _; exact Fin_ret (by first | (simp [c79]; done) | (simp [c79]; with_reducible rfl))) | (show Fin _ _ .normal _; exact Fin_end (by first | (simp [c79]; done) | (simp [c79]; with_reducible rfl))))
      case v3 => simp

/-- What is asked, with more. -/
def pr (x : Nat) (l : List Int) : Nat := ofN (fun j => x.testBit j || ofL l j) 64

theorem or_lt (x y : Nat) (hx : x < 18446744073709551616) (hy : y < 18446744073709551616) : IntKind.u64.wrap ↑(x % 2 ^ IntKind.u64.bits ||| y % 2 ^ IntKind.u64.bits) = ((x ||| y : Nat) : Int) := by
  have hb : IntKind.u64.bits = 64 := rfl
  rw [hb, Nat.mod_eq_of_lt hx, Nat.mod_eq_of_lt hy]
  have h2 : x ||| y < 2 ^ 64 := Nat.or_lt_two_pow hx hy
  exact wrapU _ h2

theorem pr_or (x : Nat) (hx : x < 18446744073709551616) (l : List Int) : x ||| ofN (ofL l) 64 = pr x l := by
  unfold pr
  refine bits_ext (Nat.or_lt_two_pow hx (ofN_lt _ 64)) (ofN_lt _ 64) fun j hj => ?_
  rw [Nat.testBit_or, ofN_bit, ofN_bit]
  simp [hj]

theorem F_probed (L : Int) (x : Nat) (hx : x < 18446744073709551616) (l : List Int) (hl : l.length ≤ 1000000) (h : List Bool) :
    F T 80 [.agg [.int .i64 L, .int .u64 x, .ro 1 (enc eBool h) false], .ro 1 (enc (eInt .i64) l) false] [] = some (.agg [.int .i64 L, .int .u64 (pr x l : Nat), .ro 1 (enc eBool h) false], []) := by
  have v1 := V_of l hl
  have v2 := or_lt x (ofN (ofL l) 64) hx (ofN64_lt _)
  rw [pr_or x hx l] at v2
  generalize pr x l = y at v2 ⊢
  generalize ofN (ofL l) 64 = z at v1 v2
  refine F_W T80 ?_
  simp only [c80, c80_b, Lift.start]
  repeat (first | refine W_assoc ?_ | (show W _ (.seq (.region _ _) _) _ _; refine W_reg (by simp; with_reducible rfl) ?_) | (show R _ _ _ (_ :: _) _ _ _ _; refine R_op (by simp (maxSteps := 2000000) [v1, v2]; with_reducible rfl) ?_) | (show R _ _ _ [] _ _ _ _; refine R_nil (by simp; with_reducible rfl) ?_) | (show W _ (.seq (.cond _ _ _) _) _ _; first | refine W_ct (by first | (simp [v1, v2]; done) | fail) ?_ | refine W_cf (by first | (simp [v1, v2]; done) | fail) ?_) | refine W_skip ?_ | refine W_bl (c := .seq _ _) ?_ | refine W_bl (c := .region _ _) ?_ | refine W_bl (c := .cond _ _ _) ?_ | refine W_bl (c := .block _ _) ?_ | refine W_rt ?_ | refine W_ex ?_ | refine W_end ?_ | refine W_tail (a := .region _ _) ?_ | refine W_tail (a := .cond _ _ _) ?_ | refine W_tail (a := .ret) ?_ | refine W_tail (a := .exit _) ?_ | refine W_tail (a := .block _ _) ?_ | refine QB_normal ?_ | refine QB_exit ?_ | refine QB_ret ?_ | refine QB_out (by decide) ?_ | refine QL_next ?_ | refine QL_exit ?_ | refine QL_ret ?_ | refine QL_out (by decide) ?_ | (show Fin _ _ .ret _; exact Fin_ret (by first | (simp [c80]; done) | (simp [c80]; with_reducible rfl))) | (show Fin _ _ .normal _; exact Fin_end (by first | (simp [c80]; done) | (simp [c80]; with_reducible rfl))))

theorem V_probed (L : Int) (x : Nat) (hx : x < 18446744073709551616) (l : List Int) (hl : l.length ≤ 1000000) (h : List Bool) :
    FV (F T) 80 [.agg [.int .i64 L, .int .u64 x, .ro 1 (enc eBool h) false], .ro 1 (enc (eInt .i64) l) false] = some (.agg [.int .i64 L, .int .u64 (pr x l : Nat), .ro 1 (enc eBool h) false]) := by
  simpa using FV_of (F_probed L x hx l hl h)

theorem F_R35probed (L : Int) (a : List Int) (ha : a.length ≤ 1000) (l : List Int) (hl : l.length ≤ 1000) (h : List Bool) :
    F T 81 [.agg [.int .i64 L, .ro 1 (enc (eInt .i64) a) false, .ro 1 (enc eBool h) false], .ro 1 (enc (eInt .i64) l) false] [] = some (.agg [.int .i64 L, .ro 1 (enc (eInt .i64) (lst (ofN (ofL (a ++ l)) 64 : Nat) 64)) false, .ro 1 (enc eBool h) false], []) := by
  have v1 := F_R06of (a ++ l) (by simp; omega)
  have v1' := V_R06of (a ++ l) (by simp; omega)
  have v2 := V_R06list (ofN (ofL (a ++ l)) 64) (ofN64_lt _)
  generalize ofN (ofL (a ++ l)) 64 = z at v1 v1' v2 ⊢
  have hb : a.length * 8 ≤ 140737488355328 := by omega
  have hb2 : a.length ≤ 140737488355328 := by omega
  have hb3 : (a.length + l.length) * 8 ≤ 140737488355328 := by omega
  have hb4 : a.length + l.length ≤ 140737488355328 := by omega
  by_cases hn : l = []
  · subst hn
    simp only [List.append_nil] at v1 v1'
    refine F_W T81 ?_
    simp only [c81, c81_b, Lift.start]
    repeat (first | refine W_assoc ?_ | (show W _ (.seq (.region _ _) _) _ _; refine W_reg (by simp; with_reducible rfl) ?_) | (show R _ _ _ (_ :: _) _ _ _ _; refine R_op (by simp (maxSteps := 2000000) [v1, v1', v2, hb, hb2, hb3, hb4]; with_reducible rfl) ?_) | (show R _ _ _ [] _ _ _ _; refine R_nil (by simp; with_reducible rfl) ?_) | (show W _ (.seq (.cond _ _ _) _) _ _; first | refine W_ct (by first | (simp [v1, v1', v2, hb, hb2, hb3, hb4]; done) | fail) ?_ | refine W_cf (by first | (simp [v1, v1', v2, hb, hb2, hb3, hb4]; done) | fail) ?_) | refine W_skip ?_ | refine W_bl (c := .seq _ _) ?_ | refine W_bl (c := .region _ _) ?_ | refine W_bl (c := .cond _ _ _) ?_ | refine W_bl (c := .block _ _) ?_ | refine W_rt ?_ | refine W_ex ?_ | refine W_end ?_ | refine W_tail (a := .region _ _) ?_ | refine W_tail (a := .cond _ _ _) ?_ | refine W_tail (a := .ret) ?_ | refine W_tail (a := .exit _) ?_ | refine W_tail (a := .block _ _) ?_ | refine QB_normal ?_ | refine QB_exit ?_ | refine QB_ret ?_ | refine QB_out (by decide) ?_ | refine QL_next ?_ | refine QL_exit ?_ | refine QL_ret ?_ | refine QL_out (by decide) ?_ | (show Fin _ _ .ret _; exact Fin_ret (by first | (simp [c81]; done) | (simp [c81]; with_reducible rfl))) | (show Fin _ _ .normal _; exact Fin_end (by first | (simp [c81]; done) | (simp [c81]; with_reducible rfl))))
  · have hp : 0 < l.length := List.length_pos_iff.2 hn
    by_cases hm : a = []
    · subst hm
      simp only [List.nil_append] at v1 v1'
      have hb5 : l.length * 8 ≤ 140737488355328 := by omega
      have hb6 : l.length ≤ 140737488355328 := by omega
      refine F_W T81 ?_
      simp only [c81, c81_b, Lift.start]
      repeat (first | refine W_assoc ?_ | (show W _ (.seq (.region _ _) _) _ _; refine W_reg (by simp; with_reducible rfl) ?_) | (show R _ _ _ (_ :: _) _ _ _ _; refine R_op (by simp (maxSteps := 2000000) [v1, v1', v2, hb5, hb6, hn, hp]; with_reducible rfl) ?_) | (show R _ _ _ [] _ _ _ _; refine R_nil (by simp; with_reducible rfl) ?_) | (show W _ (.seq (.cond _ _ _) _) _ _; first | refine W_ct (by first | (simp [v1, v1', v2, hb5, hb6, hn, hp]; done) | fail) ?_ | refine W_cf (by first | (simp [v1, v1', v2, hb5, hb6, hn, hp]; done) | fail) ?_) | refine W_skip ?_ | refine W_bl (c := .seq _ _) ?_ | refine W_bl (c := .region _ _) ?_ | refine W_bl (c := .cond _ _ _) ?_ | refine W_bl (c := .block _ _) ?_ | refine W_rt ?_ | refine W_ex ?_ | refine W_end ?_ | refine W_tail (a := .region _ _) ?_ | refine W_tail (a := .cond _ _ _) ?_ | refine W_tail (a := .ret) ?_ | refine W_tail (a := .exit _) ?_ | refine W_tail (a := .block _ _) ?_ | refine QB_normal ?_ | refine QB_exit ?_ | refine QB_ret ?_ | refine QB_out (by decide) ?_ | refine QL_next ?_ | refine QL_exit ?_ | refine QL_ret ?_ | refine QL_out (by decide) ?_ | (show Fin _ _ .ret _; exact Fin_ret (by first | (simp [c81]; done) | (simp [c81]; with_reducible rfl))) | (show Fin _ _ .normal _; exact Fin_end (by first | (simp [c81]; done) | (simp [c81]; with_reducible rfl))))
    · have hq : 0 < a.length := List.length_pos_iff.2 hm
      have hno : ¬ a.length + l.length ≤ a.length := by omega
      refine F_W T81 ?_
      simp only [c81, c81_b, Lift.start]
      repeat (first | refine W_assoc ?_ | (show W _ (.seq (.region _ _) _) _ _; refine W_reg (by simp; with_reducible rfl) ?_) | (show R _ _ _ (_ :: _) _ _ _ _; refine R_op (by simp (maxSteps := 2000000) [v1, v1', v2, hb, hb2, hb3, hb4, hn, hp, hm, hq, hno]; with_reducible rfl) ?_) | (show R _ _ _ [] _ _ _ _; refine R_nil (by simp; with_reducible rfl) ?_) | (show W _ (.seq (.cond _ _ _) _) _ _; first | refine W_ct (by first | (simp [v1, v1', v2, hb, hb2, hb3, hb4, hn, hp, hm, hq, hno]; done) | fail) ?_ | refine W_cf (by first | (simp [v1, v1', v2, hb, hb2, hb3, hb4, hn, hp, hm, hq, hno]; done) | fail) ?_) | refine W_skip ?_ | refine W_bl (c := .seq _ _) ?_ | refine W_bl (c := .region _ _) ?_ | refine W_bl (c := .cond _ _ _) ?_ | refine W_bl (c := .block _ _) ?_ | refine W_rt ?_ | refine W_ex ?_ | refine W_end ?_ | refine W_tail (a := .region _ _) ?_ | refine W_tail (a := .cond _ _ _) ?_ | refine W_tail (a := .ret) ?_ | refine W_tail (a := .exit _) ?_ | refine W_tail (a := .block _ _) ?_ | refine QB_normal ?_ | refine QB_exit ?_ | refine QB_ret ?_ | refine QB_out (by decide) ?_ | refine QL_next ?_ | refine QL_exit ?_ | refine QL_ret ?_ | refine QL_out (by decide) ?_ | (show Fin _ _ .ret _; exact Fin_ret (by first | (simp [c81]; done) | (simp [c81]; with_reducible rfl))) | (show Fin _ _ .normal _; exact Fin_end (by first | (simp [c81]; done) | (simp [c81]; with_reducible rfl))))

theorem V_R35probed (L : Int) (a : List Int) (ha : a.length ≤ 1000) (l : List Int) (hl : l.length ≤ 1000) (h : List Bool) :
    FV (F T) 81 [.agg [.int .i64 L, .ro 1 (enc (eInt .i64) a) false, .ro 1 (enc eBool h) false], .ro 1 (enc (eInt .i64) l) false] = some (.agg [.int .i64 L, .ro 1 (enc (eInt .i64) (lst (ofN (ofL (a ++ l)) 64 : Nat) 64)) false, .ro 1 (enc eBool h) false]) := by
  simpa using FV_of (F_R35probed L a ha l hl h)

theorem V_works35 : FV (F T) 71 [] = some (.bool true) := by
  have hw : F T 71 [] [] = some (.bool true, []) := F_iff.2 ⟨200, by kernel_rfl⟩
  have h := FV_of hw
  simpa using h

theorem V_sameR (l1 l2 : Int) (x y : Nat) (h m : List Bool) (hl : h.length ≤ 1000000) (hm : m.length ≤ 1000000) :
    FV (F T) 85 [.agg [.int .i64 l1, .int .u64 x, .ro 1 (enc eBool h) false], .agg [.int .i64 l2, .int .u64 y, .ro 1 (enc eBool m) false]] = some (.bool (decide (l1 = l2) && (decide (x = y) && decide (h = m)))) := by
  have v1 := FV_of (F_EQU h m hl hm)
  simp at v1
  by_cases x1 : l1 = l2
  · by_cases x2 : x = y
    · simp only [x1, x2, decide_true, Bool.true_and]
      refine FV_W T85 (r := ?r1) ?h1 ?v1
      case h1 =>
        simp only [c85, c85_b, Lift.start]
        repeat (first | refine W_assoc ?_ | (show W _ (.seq (.region _ _) _) _ _; refine W_reg (by simp; with_reducible rfl) ?_) | (show R _ _ _ (_ :: _) _ _ _ _; refine R_op (by simp (maxSteps := 2000000) [x1, x2, v1]; with_reducible rfl) ?_) | (show R _ _ _ [] _ _ _ _; refine R_nil (by simp; with_reducible rfl) ?_) | (show W _ (.seq (.cond _ _ _) _) _ _; first | refine W_ct (by first | (simp [x1, x2, v1]; done) | fail) ?_ | refine W_cf (by first | (simp [x1, x2, v1]; done) | fail) ?_) | refine W_skip ?_ | refine W_bl (c := .seq _ _) ?_ | refine W_bl (c := .region _ _) ?_ | refine W_bl (c := .cond _ _ _) ?_ | refine W_bl (c := .block _ _) ?_ | refine W_rt ?_ | refine W_ex ?_ | refine W_end ?_ | refine W_tail (a := .region _ _) ?_ | refine W_tail (a := .cond _ _ _) ?_ | refine W_tail (a := .ret) ?_ | refine W_tail (a := .exit _) ?_ | refine W_tail (a := .block _ _) ?_ | refine QB_normal ?_ | refine QB_exit ?_ | refine QB_ret ?_ | refine QB_out (by decide) ?_ | refine QL_next ?_ | refine QL_exit ?_ | refine QL_ret ?_ | refine QL_out (by decide) ?_ | (show Fin _ _ .ret _; exact Fin_ret (by first | (simp [c85]; done) | (simp [c85]; with_reducible rfl))) | (show Fin _ _ .normal _; exact Fin_end (by first | (simp [c85]; done) | (simp [c85]; with_reducible rfl))))
      case v1 => simp
    · have x2' : ¬ (x : Int) = (y : Int) := by omega
      simp only [x1, x2, decide_true, decide_false, Bool.true_and, Bool.false_and]
      refine FV_W T85 (r := ?r2) ?h2 ?v2
      case h2 =>
        simp only [c85, c85_b, Lift.start]
        repeat (first | refine W_assoc ?_ | (show W _ (.seq (.region _ _) _) _ _; refine W_reg (by simp; with_reducible rfl) ?_) | (show R _ _ _ (_ :: _) _ _ _ _; refine R_op (by simp (maxSteps := 2000000) [x1, x2, x2']; with_reducible rfl) ?_) | (show R _ _ _ [] _ _ _ _; refine R_nil (by simp; with_reducible rfl) ?_) | (show W _ (.seq (.cond _ _ _) _) _ _; first | refine W_ct (by first | (simp [x1, x2, x2']; done) | fail) ?_ | refine W_cf (by first | (simp [x1, x2, x2']; done) | fail) ?_) | refine W_skip ?_ | refine W_bl (c := .seq _ _) ?_ | refine W_bl (c := .region _ _) ?_ | refine W_bl (c := .cond _ _ _) ?_ | refine W_bl (c := .block _ _) ?_ | refine W_rt ?_ | refine W_ex ?_ | refine W_end ?_ | refine W_tail (a := .region _ _) ?_ | refine W_tail (a := .cond _ _ _) ?_ | refine W_tail (a := .ret) ?_ | refine W_tail (a := .exit _) ?_ | refine W_tail (a := .block _ _) ?_ | refine QB_normal ?_ | refine QB_exit ?_ | refine QB_ret ?_ | refine QB_out (by decide) ?_ | refine QL_next ?_ | refine QL_exit ?_ | refine QL_ret ?_ | refine QL_out (by decide) ?_ | (show Fin _ _ .ret _; exact Fin_ret (by first | (simp [c85]; done) | (simp [c85]; with_reducible rfl))) | (show Fin _ _ .normal _; exact Fin_end (by first | (simp [c85]; done) | (simp [c85]; with_reducible rfl))))
      case v2 => simp
  · simp only [x1, decide_false, Bool.false_and]
    refine FV_W T85 (r := ?r3) ?h3 ?v3
    case h3 =>
      simp only [c85, c85_b, Lift.start]
      repeat (first | refine W_assoc ?_ | (show W _ (.seq (.region _ _) _) _ _; refine W_reg (by simp; with_reducible rfl) ?_) | (show R _ _ _ (_ :: _) _ _ _ _; refine R_op (by simp (maxSteps := 2000000) [x1]; with_reducible rfl) ?_) | (show R _ _ _ [] _ _ _ _; refine R_nil (by simp; with_reducible rfl) ?_) | (show W _ (.seq (.cond _ _ _) _) _ _; first | refine W_ct (by first | (simp [x1]; done) | fail) ?_ | refine W_cf (by first | (simp [x1]; done) | fail) ?_) | refine W_skip ?_ | refine W_bl (c := .seq _ _) ?_ | refine W_bl (c := .region _ _) ?_ | refine W_bl (c := .cond _ _ _) ?_ | refine W_bl (c := .block _ _) ?_ | refine W_rt ?_ | refine W_ex ?_ | refine W_end ?_ | refine W_tail (a := .region _ _) ?_ | refine W_tail (a := .cond _ _ _) ?_ | refine W_tail (a := .ret) ?_ | refine W_tail (a := .exit _) ?_ | refine W_tail (a := .block _ _) ?_ | refine QB_normal ?_ | refine QB_exit ?_ | refine QB_ret ?_ | refine QB_out (by decide) ?_ | refine QL_next ?_ | refine QL_exit ?_ | refine QL_ret ?_ | refine QL_out (by decide) ?_ | (show Fin _ _ .ret _; exact Fin_ret (by first | (simp [c85]; done) | (simp [c85]; with_reducible rfl))) | (show Fin _ _ .normal _; exact Fin_end (by first | (simp [c85]; done) | (simp [c85]; with_reducible rfl))))
    case v3 => simp

theorem hd_len (h : List Bool) (n : Int) : (hd h n).length = h.length := by unfold hd; split <;> simp

theorem lst_inj {x y : Nat} (hx : x < 18446744073709551616) (hy : y < 18446744073709551616) (h : lst (x : Int) 64 = lst (y : Int) 64) : x = y :=
  bits_ext hx hy fun j hj => by rw [← ofL_lst x j hj, ← ofL_lst y j hj, h]

theorem of_lst (x : Nat) (hx : x < 18446744073709551616) : ofN (ofL (lst (x : Int) 64)) 64 = x :=
  bits_ext (ofN64_lt _) hx fun j hj => by rw [ofN_bit, ofL_lst x j hj]; simp [hj]

theorem of_app (x : Nat) (l : List Int) : ofN (ofL (lst (x : Int) 64 ++ l)) 64 = pr x l := by
  unfold pr
  refine ofN_congr fun j hj => ?_
  have := ofL_lst x j hj
  unfold ofL at this ⊢
  rw [List.any_append, this]

theorem does (L : Int) (hL1 : -9223372036854775808 ≤ L) (hL2 : L ≤ 9223372036854775807) (a : List Int) (h : List Bool) (n : Int) :
    F T 12 [.agg [.int .i64 L, .ro 1 (enc (eInt .i64) a) false, .ro 1 (enc eBool h) false], .int .i64 n] [] = some (.bool true, []) := by
  refine F_W T12 ?_
  simp only [c12, c12_b, Lift.start]
  by_cases h1 : 100 < a.length
  · have h1' : (100 : Int) < a.length := by omega
    repeat (first | refine W_assoc ?_ | (show W _ (.seq (.region _ _) _) _ _; refine W_reg (by simp; with_reducible rfl) ?_) | (show R _ _ _ (_ :: _) _ _ _ _; refine R_op (by simp (maxSteps := 2000000) [h1, h1', V_works35]; with_reducible rfl) ?_) | (show R _ _ _ [] _ _ _ _; refine R_nil (by simp; with_reducible rfl) ?_) | (show W _ (.seq (.cond _ _ _) _) _ _; first | refine W_ct (by first | (simp [h1, h1', V_works35]; done) | fail) ?_ | refine W_cf (by first | (simp [h1, h1', V_works35]; done) | fail) ?_) | refine W_skip ?_ | refine W_bl (c := .seq _ _) ?_ | refine W_bl (c := .region _ _) ?_ | refine W_bl (c := .cond _ _ _) ?_ | refine W_bl (c := .block _ _) ?_ | refine W_rt ?_ | refine W_ex ?_ | refine W_end ?_ | refine W_tail (a := .region _ _) ?_ | refine W_tail (a := .cond _ _ _) ?_ | refine W_tail (a := .ret) ?_ | refine W_tail (a := .exit _) ?_ | refine W_tail (a := .block _ _) ?_ | refine QB_normal ?_ | refine QB_exit ?_ | refine QB_ret ?_ | refine QB_out (by decide) ?_ | refine QL_next ?_ | refine QL_exit ?_ | refine QL_ret ?_ | refine QL_out (by decide) ?_ | (show Fin _ _ .ret _; exact Fin_ret (by first | (simp [c12]; done) | (simp [c12]; with_reducible rfl))) | (show Fin _ _ .normal _; exact Fin_end (by first | (simp [c12]; done) | (simp [c12]; with_reducible rfl))))
  by_cases h2 : 100 < h.length
  · have h1' : ¬ (100 : Int) < a.length := by omega
    have h2' : (100 : Int) < h.length := by omega
    repeat (first | refine W_assoc ?_ | (show W _ (.seq (.region _ _) _) _ _; refine W_reg (by simp; with_reducible rfl) ?_) | (show R _ _ _ (_ :: _) _ _ _ _; refine R_op (by simp (maxSteps := 2000000) [h1, h1', h2, h2', V_works35]; with_reducible rfl) ?_) | (show R _ _ _ [] _ _ _ _; refine R_nil (by simp; with_reducible rfl) ?_) | (show W _ (.seq (.cond _ _ _) _) _ _; first | refine W_ct (by first | (simp [h1, h1', h2, h2', V_works35]; done) | fail) ?_ | refine W_cf (by first | (simp [h1, h1', h2, h2', V_works35]; done) | fail) ?_) | refine W_skip ?_ | refine W_bl (c := .seq _ _) ?_ | refine W_bl (c := .region _ _) ?_ | refine W_bl (c := .cond _ _ _) ?_ | refine W_bl (c := .block _ _) ?_ | refine W_rt ?_ | refine W_ex ?_ | refine W_end ?_ | refine W_tail (a := .region _ _) ?_ | refine W_tail (a := .cond _ _ _) ?_ | refine W_tail (a := .ret) ?_ | refine W_tail (a := .exit _) ?_ | refine W_tail (a := .block _ _) ?_ | refine QB_normal ?_ | refine QB_exit ?_ | refine QB_ret ?_ | refine QB_out (by decide) ?_ | refine QL_next ?_ | refine QL_exit ?_ | refine QL_ret ?_ | refine QL_out (by decide) ?_ | (show Fin _ _ .ret _; exact Fin_ret (by first | (simp [c12]; done) | (simp [c12]; with_reducible rfl))) | (show Fin _ _ .normal _; exact Fin_end (by first | (simp [c12]; done) | (simp [c12]; with_reducible rfl))))
  have h1' : ¬ (100 : Int) < a.length := by omega
  have h2' : ¬ (100 : Int) < h.length := by omega
  have v1 := V_R06of a (by omega)
  have hxlt := ofN64_lt (ofL a)
  generalize ofN (ofL a) 64 = x at v1 hxlt
  have v2 := V_R06list x hxlt
  have hll := lst_len x 64
  have v3 := V_of35 L (lst x 64) h (by omega) (by omega)
  rw [of_lst x hxlt] at v3
  have v4 := V_tick L x n h hL1 hL2
  have v5 := V_R35tick L (lst x 64) n h hL1 hL2
  generalize (if 1 < L then L - 1 else n) = L1 at v4 v5
  generalize (!decide (1 < L)) = tb at v4 v5
  have v6 := V_over L x hxlt n h
  have l0 : lst (0 : Nat) 64 = [] := by decide
  have v7 := V_is35 L1 L1 x hxlt (lst x 64) h h (by omega) (by omega) (by omega) rfl rfl rfl
  have v8 := V_is35e L h (by omega)
  have v9 := V_R35full L (lst x 64) (by omega) n h
  rw [of_lst x hxlt] at v9
  have hlo := lst_len (wo x n : Nat) 64
  have va := V_same06 (lst (wo x n : Nat) 64) (lst (wo x n : Nat) 64) (by omega) (by omega)
  have vb := V_new n
  have vc := V_R35new n
  have vd := V_is35 1 1 0 (by omega) [] (List.replicate (cl n) false) (List.replicate (cl n) false) (by simp) (by unfold cl; simp; split <;> (try split) <;> omega) (by unfold cl; simp; split <;> (try split) <;> omega) rfl l0 rfl
  simp only [enc_nil, Int.natCast_zero, Int.cast_ofNat_Int] at vd
  generalize List.replicate (cl n) false = nh at vb vc vd
  have ve := V_probed L x hxlt [n, 3] (by simp) h
  have vf := V_R35probed L (lst x 64) (by omega) [n, 3] (by simp) h
  rw [of_app x [n, 3]] at vf
  have hlp := lst_len (pr x [n, 3] : Nat) 64
  have vg := V_is35 L L (pr x [n, 3]) (ofN64_lt _) (lst (pr x [n, 3] : Nat) 64) h h (by omega) (by omega) (by omega) rfl rfl rfl
  have vh := V_full L x hxlt n h
  have vi := V_is35 L L (wo x n) (wo_lt _ _) (lst (wo x n : Nat) 64) h h (by omega) (by omega) (by omega) rfl rfl rfl
  have vj := V_came L x n h (by omega)
  have vk := V_R35came L (lst x 64) n h (by omega)
  have hdl := hd_len h n
  have vl := V_is35 L L x hxlt (lst x 64) (hd h n) (hd h n) (by omega) (by omega) (by omega) rfl rfl rfl
  have vm := V_is35 L L x hxlt (lst x 64) h h (by omega) (by omega) (by omega) rfl rfl rfl
  have vn := V_sameR L L1 x x h h (by omega) (by omega)
  have vo := V_same35 L L1 (lst x 64) (lst x 64) h h (by omega) (by omega) (by omega) (by omega)
  have vp := V_sameR L L x x h h (by omega) (by omega)
  simp only [decide_true, Bool.and_self, Bool.and_true] at va vn vo vp
  generalize decide (L = L1) = db at vn vo
  generalize lst (x : Int) 64 = lx at *
  generalize lst (wo x n : Nat) 64 = lw at *
  have q2 : lst (pr x [n, 3] : Nat) 64 ≠ [] := by
    intro e
    have h0 := of_lst (pr x [n, 3]) (ofN64_lt _)
    rw [e] at h0
    have hb : (pr x [n, 3]).testBit 3 = true := by unfold pr; rw [ofN_bit]; simp [ofL]
    rw [← h0, ofN_bit] at hb
    simp [ofL] at hb
  generalize lst (pr x [n, 3] : Nat) 64 = lp at *
  generalize wo x n = xw at *
  generalize pr x [n, 3] = xp at *
  generalize hd h n = h' at *
  have en3 : enc (eInt .i64) [n, 3] = [.int .i64 n] :: enc (eInt .i64) [3] := rfl
  rw [en3] at ve vf
  repeat (first | refine W_assoc ?_ | (show W _ (.seq (.region _ _) _) _ _; refine W_reg (by simp; with_reducible rfl) ?_) | (show R _ _ _ (_ :: _) _ _ _ _; refine R_op (by simp (maxSteps := 2000000) [h1, h1', h2, h2', v1, v2, v3, v4, v5, v6, v7, v8, v9, va, vb, vc, vd, ve, vf, vg, vh, vi, vj, vk, vl, vm, vn, vo, vp, V_works35]; with_reducible rfl) ?_) | (show R _ _ _ [] _ _ _ _; refine R_nil (by simp; with_reducible rfl) ?_) | (show W _ (.seq (.cond _ _ _) _) _ _; first | refine W_ct (by first | (simp [h1, h1', h2, h2', v1, v2, v3, v4, v5, v6, v7, v8, v9, va, vb, vc, vd, ve, vf, vg, vh, vi, vj, vk, vl, vm, vn, vo, vp, V_works35]; done) | fail) ?_ | refine W_cf (by first | (simp [h1, h1', h2, h2', v1, v2, v3, v4, v5, v6, v7, v8, v9, va, vb, vc, vd, ve, vf, vg, vh, vi, vj, vk, vl, vm, vn, vo, vp, V_works35]; done) | fail) ?_) | refine W_skip ?_ | refine W_bl (c := .seq _ _) ?_ | refine W_bl (c := .region _ _) ?_ | refine W_bl (c := .cond _ _ _) ?_ | refine W_bl (c := .block _ _) ?_ | refine W_rt ?_ | refine W_ex ?_ | refine W_end ?_ | refine W_tail (a := .region _ _) ?_ | refine W_tail (a := .cond _ _ _) ?_ | refine W_tail (a := .ret) ?_ | refine W_tail (a := .exit _) ?_ | refine W_tail (a := .block _ _) ?_ | refine QB_normal ?_ | refine QB_exit ?_ | refine QB_ret ?_ | refine QB_out (by decide) ?_ | refine QL_next ?_ | refine QL_exit ?_ | refine QL_ret ?_ | refine QL_out (by decide) ?_ | (show Fin _ _ .ret _; exact Fin_ret (by first | (simp [c12]; done) | (simp [c12]; with_reducible rfl))) | (show Fin _ _ .normal _; exact Fin_end (by first | (simp [c12]; done) | (simp [c12]; with_reducible rfl))))

end Go.Proofs.Ytnobgooojbppbaa.Round
