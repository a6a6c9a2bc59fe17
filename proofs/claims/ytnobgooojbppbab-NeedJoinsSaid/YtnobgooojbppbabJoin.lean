/- Lists joined. -/
import Derived.Test.YtnobgooojbppbabTNJ
import Derived.Test.YtnobgooojbppbabBase
set_option linter.all false
set_option maxRecDepth 100000
set_option maxHeartbeats 1000000
namespace Go.Proofs.Ytnobgooojbppbab.Join
open Go Go.RowKit Go.Proofs.Ytnobgooojbppbab.Lift Go.Proofs.Ytnobgooojbppbab.TNJ Go.Proofs.Ytnobgooojbppbab.Base

/-- A list in a list. -/
@[simp] def eP (p : List P2) : List AV := [.ro 2 (enc e2 p) false]

theorem join_loop (op : Int) (ps : List (List P2)) (hl : ps.length ≤ 5) (hp : ∀ (i : Nat) (h : i < ps.length), (ps[i]).length ≤ 50) :
    ∀ (k i : Nat) (r : List P2) (st : ASt), i + k = ps.length → r.length ≤ 50 * i → canon [0, 5, 8, 9, 10] st = ⟨[.int .i64 op, .top, .top, .top, .top, .own 0 0 r.length, .top, .top, .ro 1 (enc eP ps) false, .int .i64 ps.length, .int .i64 i, .top, .top, .top, .top, .top, .top, .top, .top, .top, .top, .top, .top], [(0, ⟨94, 2, false, enc e2 r, 0⟩)], 1, 0⟩ →
      W T c14_k0 st (Lift.Fin c14 (.own 0 0 (r ++ (ps.drop i).flatten ++ [(op, 0)]).length, [⟨94, 2, false, enc e2 (r ++ (ps.drop i).flatten ++ [(op, 0)]), 0⟩])) := by
  intro k
  induction k with
  | zero =>
    intro i r st hi hr hc
    have h1 : ¬ i < ps.length := by omega
    have e1 : ps.drop i = [] := List.drop_of_length_le (by omega)
    have hb : (r.length + 1) * 16 ≤ 140737488355328 := by omega
    have hb2 : r.length + 1 ≤ 140737488355328 := by omega
    rw [e1, List.flatten_nil, List.append_nil]
    unfold c14_k0
    refine W_round hc ?_
    unfold c14_l0
    repeat (first | refine W_assoc ?_ | (show W _ (.seq (.region _ _) _) _ _; refine W_reg (by simp; with_reducible rfl) ?_) | (show R _ _ _ (_ :: _) _ _ _ _; refine R_op (by simp (maxSteps := 2000000) [h1, hb, hb2]; with_reducible rfl) ?_) | (show R _ _ _ [] _ _ _ _; refine R_nil (by simp; with_reducible rfl) ?_) | (show W _ (.seq (.cond _ _ _) _) _ _; first | refine W_ct (by first | (simp [h1, hb, hb2]; done) | fail) ?_ | refine W_cf (by first | (simp [h1, hb, hb2]; done) | fail) ?_) | refine W_skip ?_ | refine W_bl (c := .seq _ _) ?_ | refine W_bl (c := .region _ _) ?_ | refine W_bl (c := .cond _ _ _) ?_ | refine W_bl (c := .block _ _) ?_ | refine W_rt ?_ | refine W_ex ?_ | refine W_end ?_ | refine W_tail (a := .region _ _) ?_ | refine W_tail (a := .cond _ _ _) ?_ | refine W_tail (a := .ret) ?_ | refine W_tail (a := .exit _) ?_ | refine W_tail (a := .block _ _) ?_ | refine QB_normal ?_ | refine QB_exit ?_ | refine QB_ret ?_ | refine QB_out (by decide) ?_ | refine QL_next ?_ | refine QL_exit ?_ | refine QL_ret ?_ | refine QL_out (by decide) ?_ | (show Fin _ _ .ret _; exact Fin_ret (by first | (simp [c14]; done) | (simp [c14]; with_reducible rfl))) | (show Fin _ _ .normal _; exact Fin_end (by first | (simp [c14]; done) | (simp [c14]; with_reducible rfl))))
  | succ k ih =>
    intro i r st hi hr hc
    have hlt : i < ps.length := by omega
    have hpi := hp i hlt
    have hw := wrapS i _ hlt (by omega)
    have hb : (r.length + (ps[i]).length) * 16 ≤ 140737488355328 := by omega
    have hb2 : r.length + (ps[i]).length ≤ 140737488355328 := by omega
    rw [List.drop_eq_getElem_cons hlt, List.flatten_cons, ← List.append_assoc r]
    unfold c14_k0
    by_cases he : ps[i] = []
    · rw [he, List.append_nil]
      refine W_round hc ?_
      unfold c14_l0
      have hb3 : r.length * 16 ≤ 140737488355328 := by omega
      have hb4 : r.length ≤ 140737488355328 := by omega
      repeat (first | refine W_assoc ?_ | (show W _ (.seq (.region _ _) _) _ _; refine W_reg (by simp; with_reducible rfl) ?_) | (show R _ _ _ (_ :: _) _ _ _ _; refine R_op (by simp (maxSteps := 2000000) [hlt, hw, he, hb3, hb4]; with_reducible rfl) ?_) | (show R _ _ _ [] _ _ _ _; refine R_nil (by simp; with_reducible rfl) ?_) | (show W _ (.seq (.cond _ _ _) _) _ _; first | refine W_ct (by first | (simp [hlt, hw, he, hb3, hb4]; done) | fail) ?_ | refine W_cf (by first | (simp [hlt, hw, he, hb3, hb4]; done) | fail) ?_) | refine W_skip ?_ | refine W_bl (c := .seq _ _) ?_ | refine W_bl (c := .region _ _) ?_ | refine W_bl (c := .cond _ _ _) ?_ | refine W_bl (c := .block _ _) ?_ | refine W_rt ?_ | refine W_ex ?_ | refine W_end ?_ | refine W_tail (a := .region _ _) ?_ | refine W_tail (a := .cond _ _ _) ?_ | refine W_tail (a := .ret) ?_ | refine W_tail (a := .exit _) ?_ | refine W_tail (a := .block _ _) ?_ | refine QB_normal ?_ | refine QB_exit ?_ | refine QB_ret ?_ | refine QB_out (by decide) ?_ | refine QL_next ?_ | refine QL_exit ?_ | refine QL_ret ?_ | refine QL_out (by decide) ?_ | (show Fin _ _ .ret _; exact Fin_ret (by first | (simp; done) | (simp; with_reducible rfl))) | (show Fin _ _ .normal _; exact Fin_end (by first | (simp; done) | (simp; with_reducible rfl))))
      exact ih (i + 1) r _ (by omega) (by omega) (by simp; try rfl)
    · have hne : ¬ (r.length + (ps[i]).length ≤ r.length) := by have := List.length_pos_iff.2 he; omega
      refine W_round hc ?_
      unfold c14_l0
      repeat (first | refine W_assoc ?_ | (show W _ (.seq (.region _ _) _) _ _; refine W_reg (by simp; with_reducible rfl) ?_) | (show R _ _ _ (_ :: _) _ _ _ _; refine R_op (by simp (maxSteps := 2000000) [hlt, hw, hb, hb2, hne]; with_reducible rfl) ?_) | (show R _ _ _ [] _ _ _ _; refine R_nil (by simp; with_reducible rfl) ?_) | (show W _ (.seq (.cond _ _ _) _) _ _; first | refine W_ct (by first | (simp [hlt, hw, hb, hb2, hne]; done) | fail) ?_ | refine W_cf (by first | (simp [hlt, hw, hb, hb2, hne]; done) | fail) ?_) | refine W_skip ?_ | refine W_bl (c := .seq _ _) ?_ | refine W_bl (c := .region _ _) ?_ | refine W_bl (c := .cond _ _ _) ?_ | refine W_bl (c := .block _ _) ?_ | refine W_rt ?_ | refine W_ex ?_ | refine W_end ?_ | refine W_tail (a := .region _ _) ?_ | refine W_tail (a := .cond _ _ _) ?_ | refine W_tail (a := .ret) ?_ | refine W_tail (a := .exit _) ?_ | refine W_tail (a := .block _ _) ?_ | refine QB_normal ?_ | refine QB_exit ?_ | refine QB_ret ?_ | refine QB_out (by decide) ?_ | refine QL_next ?_ | refine QL_exit ?_ | refine QL_ret ?_ | refine QL_out (by decide) ?_ | (show Fin _ _ .ret _; exact Fin_ret (by first | (simp; done) | (simp; with_reducible rfl))) | (show Fin _ _ .normal _; exact Fin_end (by first | (simp; done) | (simp; with_reducible rfl))))
      exact ih (i + 1) (r ++ ps[i]) _ (by omega) (by simp; omega) (by simp; try rfl)

theorem V_join (op : Int) (ps : List (List P2)) (hl : ps.length ≤ 5) (hp : ∀ (i : Nat) (h : i < ps.length), (ps[i]).length ≤ 50) :
    FV (F T) 14 [.int .i64 op, .ro 1 (enc eP ps) false] = some (.ro 2 (enc e2 (ps.flatten ++ [(op, 0)])) false) := by
  refine FV_W T14 (r := (.own 0 0 (ps.flatten ++ [(op, 0)]).length, [⟨94, 2, false, enc e2 (ps.flatten ++ [(op, 0)]), 0⟩])) ?_ (by simp [List.take_of_length_le])
  simp only [c14, c14_b, Lift.start]
  repeat (first | refine W_assoc ?_ | (show W _ (.seq (.region _ _) _) _ _; refine W_reg (by simp; with_reducible rfl) ?_) | (show R _ _ _ (_ :: _) _ _ _ _; refine R_op (by simp (maxSteps := 2000000); with_reducible rfl) ?_) | (show R _ _ _ [] _ _ _ _; refine R_nil (by simp; with_reducible rfl) ?_) | (show W _ (.seq (.cond _ _ _) _) _ _; first | refine W_ct (by first | (simp; done) | fail) ?_ | refine W_cf (by first | (simp; done) | fail) ?_) | refine W_skip ?_ | refine W_bl (c := .seq _ _) ?_ | refine W_bl (c := .region _ _) ?_ | refine W_bl (c := .cond _ _ _) ?_ | refine W_bl (c := .block _ _) ?_ | refine W_rt ?_ | refine W_ex ?_ | refine W_end ?_ | refine W_tail (a := .region _ _) ?_ | refine W_tail (a := .cond _ _ _) ?_ | refine W_tail (a := .ret) ?_ | refine W_tail (a := .exit _) ?_ | refine W_tail (a := .block _ _) ?_ | refine QB_normal ?_ | refine QB_exit ?_ | refine QB_ret ?_ | refine QB_out (by decide) ?_ | refine QL_next ?_ | refine QL_exit ?_ | refine QL_ret ?_ | refine QL_out (by decide) ?_ | (show Fin _ _ .ret _; exact Fin_ret (by first | (simp; done) | (simp; with_reducible rfl))) | (show Fin _ _ .normal _; exact Fin_end (by first | (simp; done) | (simp; with_reducible rfl))))
  have hz := join_loop op ps hl hp ps.length 0 []
  simp only [List.drop_zero, List.nil_append] at hz
  exact hz _ (by simp) (by simp) (by simp; try rfl)

theorem rjoin_loop (op : Int) (ps : List (List P2)) (hl : ps.length ≤ 5) (hp : ∀ (i : Nat) (h : i < ps.length), (ps[i]).length ≤ 50) :
    ∀ (k i : Nat) (r : List P2) (st : ASt), i + k = ps.length → r.length ≤ 50 * i → canon [0, 1, 5, 6] st = ⟨[.int .i64 op, .ro 1 (enc eP ps) false, .top, .top, .top, .own 0 0 r.length, .int .i64 i, .top, .top, .top, .top, .top, .top, .top, .top, .top, .top, .top, .top, .top, .top, .top, .top, .top], [(0, ⟨94, 2, false, enc e2 r, 0⟩)], 1, 0⟩ →
      W T c15_k0 st (Lift.Fin c15 (.own 0 0 (r ++ (ps.drop i).flatten ++ [(op, 0)]).length, [⟨94, 2, false, enc e2 (r ++ (ps.drop i).flatten ++ [(op, 0)]), 0⟩])) := by
  intro k
  induction k with
  | zero =>
    intro i r st hi hr hc
    have h1 : ¬ i < ps.length := by omega
    have e1 : ps.drop i = [] := List.drop_of_length_le (by omega)
    have hb : (r.length + 1) * 16 ≤ 140737488355328 := by omega
    have hb2 : r.length + 1 ≤ 140737488355328 := by omega
    rw [e1, List.flatten_nil, List.append_nil]
    unfold c15_k0
    refine W_round hc ?_
    unfold c15_l0
    repeat (first | refine W_assoc ?_ | (show W _ (.seq (.region _ _) _) _ _; refine W_reg (by simp; with_reducible rfl) ?_) | (show R _ _ _ (_ :: _) _ _ _ _; refine R_op (by simp (maxSteps := 2000000) [h1, hb, hb2]; with_reducible rfl) ?_) | (show R _ _ _ [] _ _ _ _; refine R_nil (by simp; with_reducible rfl) ?_) | (show W _ (.seq (.cond _ _ _) _) _ _; first | refine W_ct (by first | (simp [h1, hb, hb2]; done) | fail) ?_ | refine W_cf (by first | (simp [h1, hb, hb2]; done) | fail) ?_) | refine W_skip ?_ | refine W_bl (c := .seq _ _) ?_ | refine W_bl (c := .region _ _) ?_ | refine W_bl (c := .cond _ _ _) ?_ | refine W_bl (c := .block _ _) ?_ | refine W_rt ?_ | refine W_ex ?_ | refine W_end ?_ | refine W_tail (a := .region _ _) ?_ | refine W_tail (a := .cond _ _ _) ?_ | refine W_tail (a := .ret) ?_ | refine W_tail (a := .exit _) ?_ | refine W_tail (a := .block _ _) ?_ | refine QB_normal ?_ | refine QB_exit ?_ | refine QB_ret ?_ | refine QB_out (by decide) ?_ | refine QL_next ?_ | refine QL_exit ?_ | refine QL_ret ?_ | refine QL_out (by decide) ?_ | (show Fin _ _ .ret _; exact Fin_ret (by first | (simp [c15]; done) | (simp [c15]; with_reducible rfl))) | (show Fin _ _ .normal _; exact Fin_end (by first | (simp [c15]; done) | (simp [c15]; with_reducible rfl))))
  | succ k ih =>
    intro i r st hi hr hc
    have hlt : i < ps.length := by omega
    have hpi := hp i hlt
    have hw := wrapS i _ hlt (by omega)
    have hb : (r.length + (ps[i]).length) * 16 ≤ 140737488355328 := by omega
    have hb2 : r.length + (ps[i]).length ≤ 140737488355328 := by omega
    rw [List.drop_eq_getElem_cons hlt, List.flatten_cons, ← List.append_assoc r]
    unfold c15_k0
    by_cases he : ps[i] = []
    · rw [he, List.append_nil]
      refine W_round hc ?_
      unfold c15_l0
      have hb3 : r.length * 16 ≤ 140737488355328 := by omega
      have hb4 : r.length ≤ 140737488355328 := by omega
      repeat (first | refine W_assoc ?_ | (show W _ (.seq (.region _ _) _) _ _; refine W_reg (by simp; with_reducible rfl) ?_) | (show R _ _ _ (_ :: _) _ _ _ _; refine R_op (by simp (maxSteps := 2000000) [hlt, hw, he, hb3, hb4]; with_reducible rfl) ?_) | (show R _ _ _ [] _ _ _ _; refine R_nil (by simp; with_reducible rfl) ?_) | (show W _ (.seq (.cond _ _ _) _) _ _; first | refine W_ct (by first | (simp [hlt, hw, he, hb3, hb4]; done) | fail) ?_ | refine W_cf (by first | (simp [hlt, hw, he, hb3, hb4]; done) | fail) ?_) | refine W_skip ?_ | refine W_bl (c := .seq _ _) ?_ | refine W_bl (c := .region _ _) ?_ | refine W_bl (c := .cond _ _ _) ?_ | refine W_bl (c := .block _ _) ?_ | refine W_rt ?_ | refine W_ex ?_ | refine W_end ?_ | refine W_tail (a := .region _ _) ?_ | refine W_tail (a := .cond _ _ _) ?_ | refine W_tail (a := .ret) ?_ | refine W_tail (a := .exit _) ?_ | refine W_tail (a := .block _ _) ?_ | refine QB_normal ?_ | refine QB_exit ?_ | refine QB_ret ?_ | refine QB_out (by decide) ?_ | refine QL_next ?_ | refine QL_exit ?_ | refine QL_ret ?_ | refine QL_out (by decide) ?_ | (show Fin _ _ .ret _; exact Fin_ret (by first | (simp; done) | (simp; with_reducible rfl))) | (show Fin _ _ .normal _; exact Fin_end (by first | (simp; done) | (simp; with_reducible rfl))))
      exact ih (i + 1) r _ (by omega) (by omega) (by simp; try rfl)
    · have hne : ¬ (r.length + (ps[i]).length ≤ r.length) := by have := List.length_pos_iff.2 he; omega
      refine W_round hc ?_
      unfold c15_l0
      repeat (first | refine W_assoc ?_ | (show W _ (.seq (.region _ _) _) _ _; refine W_reg (by simp; with_reducible rfl) ?_) | (show R _ _ _ (_ :: _) _ _ _ _; refine R_op (by simp (maxSteps := 2000000) [hlt, hw, hb, hb2, hne]; with_reducible rfl) ?_) | (show R _ _ _ [] _ _ _ _; refine R_nil (by simp; with_reducible rfl) ?_) | (show W _ (.seq (.cond _ _ _) _) _ _; first | refine W_ct (by first | (simp [hlt, hw, hb, hb2, hne]; done) | fail) ?_ | refine W_cf (by first | (simp [hlt, hw, hb, hb2, hne]; done) | fail) ?_) | refine W_skip ?_ | refine W_bl (c := .seq _ _) ?_ | refine W_bl (c := .region _ _) ?_ | refine W_bl (c := .cond _ _ _) ?_ | refine W_bl (c := .block _ _) ?_ | refine W_rt ?_ | refine W_ex ?_ | refine W_end ?_ | refine W_tail (a := .region _ _) ?_ | refine W_tail (a := .cond _ _ _) ?_ | refine W_tail (a := .ret) ?_ | refine W_tail (a := .exit _) ?_ | refine W_tail (a := .block _ _) ?_ | refine QB_normal ?_ | refine QB_exit ?_ | refine QB_ret ?_ | refine QB_out (by decide) ?_ | refine QL_next ?_ | refine QL_exit ?_ | refine QL_ret ?_ | refine QL_out (by decide) ?_ | (show Fin _ _ .ret _; exact Fin_ret (by first | (simp; done) | (simp; with_reducible rfl))) | (show Fin _ _ .normal _; exact Fin_end (by first | (simp; done) | (simp; with_reducible rfl))))
      exact ih (i + 1) (r ++ ps[i]) _ (by omega) (by simp; omega) (by simp; try rfl)

theorem V_rjoin (op : Int) (ps : List (List P2)) (hl : ps.length ≤ 5) (hp : ∀ (i : Nat) (h : i < ps.length), (ps[i]).length ≤ 50) :
    FV (F T) 15 [.int .i64 op, .ro 1 (enc eP ps) false] = some (.ro 2 (enc e2 (ps.flatten ++ [(op, 0)])) false) := by
  refine FV_W T15 (r := (.own 0 0 (ps.flatten ++ [(op, 0)]).length, [⟨94, 2, false, enc e2 (ps.flatten ++ [(op, 0)]), 0⟩])) ?_ (by simp [List.take_of_length_le])
  simp only [c15, c15_b, Lift.start]
  repeat (first | refine W_assoc ?_ | (show W _ (.seq (.region _ _) _) _ _; refine W_reg (by simp; with_reducible rfl) ?_) | (show R _ _ _ (_ :: _) _ _ _ _; refine R_op (by simp (maxSteps := 2000000); with_reducible rfl) ?_) | (show R _ _ _ [] _ _ _ _; refine R_nil (by simp; with_reducible rfl) ?_) | (show W _ (.seq (.cond _ _ _) _) _ _; first | refine W_ct (by first | (simp; done) | fail) ?_ | refine W_cf (by first | (simp; done) | fail) ?_) | refine W_skip ?_ | refine W_bl (c := .seq _ _) ?_ | refine W_bl (c := .region _ _) ?_ | refine W_bl (c := .cond _ _ _) ?_ | refine W_bl (c := .block _ _) ?_ | refine W_rt ?_ | refine W_ex ?_ | refine W_end ?_ | refine W_tail (a := .region _ _) ?_ | refine W_tail (a := .cond _ _ _) ?_ | refine W_tail (a := .ret) ?_ | refine W_tail (a := .exit _) ?_ | refine W_tail (a := .block _ _) ?_ | refine QB_normal ?_ | refine QB_exit ?_ | refine QB_ret ?_ | refine QB_out (by decide) ?_ | refine QL_next ?_ | refine QL_exit ?_ | refine QL_ret ?_ | refine QL_out (by decide) ?_ | (show Fin _ _ .ret _; exact Fin_ret (by first | (simp; done) | (simp; with_reducible rfl))) | (show Fin _ _ .normal _; exact Fin_end (by first | (simp; done) | (simp; with_reducible rfl))))
  have hz := rjoin_loop op ps hl hp ps.length 0 []
  simp only [List.drop_zero, List.nil_append] at hz
  exact hz _ (by simp) (by simp) (by simp; try rfl)

theorem R09_Same_loop (l m : List P2) (hl : l.length ≤ 140737488355328) (hlm : l.length = m.length) :
    ∀ (k i : Nat) (st : ASt), i + k = l.length → canon [0, 1, 5] st = ⟨[.ro 2 (enc e2 l) false, .ro 2 (enc e2 m) false, .top, .top, .top, .int .i64 i, .top, .top, .top, .top, .top, .top, .top, .top, .top, .top, .top, .top, .top, .top, .top, .top, .top, .top, .top, .top], [], 0, 0⟩ → W T c13_k0 st (Lift.Fin c13 (.bool (decide (l.drop i = m.drop i)), [])) := by
  intro k
  induction k with
  | zero =>
    intro i st hi hc
    have h1 : ¬ i < l.length := by omega
    have e1 : l.drop i = [] := List.drop_of_length_le (by omega)
    have e2 : m.drop i = [] := List.drop_of_length_le (by omega)
    unfold c13_k0
    refine W_exit (by rw [hc]; simp (maxSteps := 2000000) [c13_l0, h1]; with_reducible rfl) ?_
    exact W_fin (ex := .ret) (by simp (maxSteps := 2000000); with_reducible rfl) (by simp) (by first | (simp [c13, e1, e2]; done) | (simp [c13, e1, e2]; with_reducible rfl))
  | succ k ih =>
    intro i st hi hc
    have hlt : i < l.length := by omega
    have hlt2 : i < m.length := by omega
    have hw := wrapS i _ hlt hl
    have d1 := List.drop_eq_getElem_cons hlt
    have d2 := List.drop_eq_getElem_cons hlt2
    unfold c13_k0
    by_cases he : l[i] = m[i]
    · rw [d1, d2, he]
      simp only [List.cons.injEq, true_and]
      refine W_next (by rw [hc]; simp (maxSteps := 2000000) [c13_l0, hlt, hlt2, hw, he, eqCs, hlm]; with_reducible rfl) ?_
      exact ih (i + 1) _ (by omega) (by simp [hlm])
    · have hd : decide (l.drop i = m.drop i) = false := by
        rw [decide_eq_false_iff_not, d1, d2]; intro e; injection e with e _; exact he e
      rw [hd]
      have hne := e2_ne he
      exact W_ret (by rw [hc]; simp (maxSteps := 2000000) [c13_l0, hlt, hlt2, hne, eqCs, hlm]; with_reducible rfl) (Fin_ret (by simp [c13]))

theorem F_R09_Same (l m : List P2) (hl : l.length ≤ 1000000) (hm : m.length ≤ 1000000) : F T 13 [.ro 2 (enc e2 l) false, .ro 2 (enc e2 m) false] [] = some (.bool (decide (l = m)), []) := by
  refine F_W T13 ?_
  by_cases h : l.length = m.length
  · simp only [c13, c13_b, Lift.start]
    repeat (first | refine W_assoc ?_ | refine W_go (a := .region _ _) (by simp (maxSteps := 2000000) [h]; with_reducible rfl) ?_ | refine W_go (a := .cond _ _ _) (by simp (maxSteps := 2000000) [h]; with_reducible rfl) ?_ | refine W_go (a := .block _ (.seq _ _)) (by simp (maxSteps := 2000000) [h]; with_reducible rfl) ?_)
    have := R09_Same_loop l m (by omega) h l.length 0
    simp only [List.drop_zero] at this
    exact this _ (by simp) (by simp [h])
  · have h1 : decide (l = m) = false := by
      rw [decide_eq_false_iff_not]; intro e; exact h (by rw [e])
    have h2 : ¬ (l.length : Int) = (m.length : Int) := by omega
    rw [h1]
    exact W_fin (ex := .ret) (by simp (maxSteps := 2000000) [c13, c13_b, h2, h]; with_reducible rfl) (by simp) (by first | (simp [c13]; done) | (simp [c13]; with_reducible rfl))


theorem V_works : FV (F T) 12 [] = some (.bool true) := by
  have hw : F T 12 [] [] = some (.bool true, []) := F_iff.2 ⟨400, by kernel_rfl⟩
  have h := FV_of hw
  simpa using h

theorem law_loop (op : Int) (ps : List (List P2)) (hl : ps.length ≤ 5) :
    ∀ (k i : Nat) (st : ASt), i + k = ps.length → (∀ (j : Nat) (h : j < ps.length), j < i → (ps[j]).length ≤ 50) → canon [0, 1, 5] st = ⟨[.int .i64 op, .ro 1 (enc eP ps) false, .top, .top, .top, .int .i64 i, .top, .top, .top, .top, .top, .top, .top, .top, .top, .top, .top, .top, .top, .top, .top, .top, .top, .top, .top, .top, .top, .top, .top, .top, .top, .top, .top], [], 0, 0⟩ →
      W T c3_k0 st (Lift.Fin c3 (.bool true, [])) := by
  intro k
  induction k with
  | zero =>
    intro i st hi hb hc
    have h1 : ¬ i < ps.length := by omega
    have hp : ∀ (j : Nat) (h : j < ps.length), (ps[j]).length ≤ 50 := fun j h => hb j h (by omega)
    have v1 := V_join op ps hl hp
    have v2 := V_rjoin op ps hl hp
    have hfl : ps.flatten.length ≤ 250 := by
      have : ∀ l : List (List P2), (∀ x ∈ l, x.length ≤ 50) → l.flatten.length ≤ 50 * l.length := by
        intro l
        induction l with
        | nil => intro _; simp
        | cons a t ih => intro h; have h1 := h a (by simp); have h2 := ih (fun x hx => h x (by simp [hx])); rw [List.flatten_cons, List.length_append, List.length_cons]; omega
      have := this ps (fun x hx => by obtain ⟨j, hj, rfl⟩ := List.mem_iff_getElem.1 hx; exact hp j hj)
      omega
    have s1 := FV_of (F_R09_Same (ps.flatten ++ [(op, 0)]) (ps.flatten ++ [(op, 0)]) (by rw [List.length_append, List.length_singleton]; omega) (by rw [List.length_append, List.length_singleton]; omega))
    simp only [decide_true] at s1
    simp at s1
    unfold c3_k0
    refine W_round hc ?_
    unfold c3_l0
    repeat (first | refine W_assoc ?_ | (show W _ (.seq (.region _ _) _) _ _; refine W_reg (by simp; with_reducible rfl) ?_) | (show R _ _ _ (_ :: _) _ _ _ _; refine R_op (by simp (maxSteps := 2000000) [h1, v1, v2, s1, V_works]; with_reducible rfl) ?_) | (show R _ _ _ [] _ _ _ _; refine R_nil (by simp; with_reducible rfl) ?_) | (show W _ (.seq (.cond _ _ _) _) _ _; first | refine W_ct (by first | (simp [h1, v1, v2, s1, V_works]; done) | fail) ?_ | refine W_cf (by first | (simp [h1, v1, v2, s1, V_works]; done) | fail) ?_) | refine W_skip ?_ | refine W_bl (c := .seq _ _) ?_ | refine W_bl (c := .region _ _) ?_ | refine W_bl (c := .cond _ _ _) ?_ | refine W_bl (c := .block _ _) ?_ | refine W_rt ?_ | refine W_ex ?_ | refine W_end ?_ | refine W_tail (a := .region _ _) ?_ | refine W_tail (a := .cond _ _ _) ?_ | refine W_tail (a := .ret) ?_ | refine W_tail (a := .exit _) ?_ | refine W_tail (a := .block _ _) ?_ | refine QB_normal ?_ | refine QB_exit ?_ | refine QB_ret ?_ | refine QB_out (by decide) ?_ | refine QL_next ?_ | refine QL_exit ?_ | refine QL_ret ?_ | refine QL_out (by decide) ?_ | (show Fin _ _ .ret _; exact Fin_ret (by first | (simp [c3]; done) | (simp [c3]; with_reducible rfl))) | (show Fin _ _ .normal _; exact Fin_end (by first | (simp [c3]; done) | (simp [c3]; with_reducible rfl))))
  | succ k ih =>
    intro i st hi hb hc
    have hlt : i < ps.length := by omega
    have hw := wrapS i _ hlt (by omega)
    unfold c3_k0
    by_cases he : 50 < (ps[i]).length
    · have he2 : (50 : Int) < (ps[i]).length := by omega
      refine W_round hc ?_
      unfold c3_l0
      repeat (first | refine W_assoc ?_ | (show W _ (.seq (.region _ _) _) _ _; refine W_reg (by simp; with_reducible rfl) ?_) | (show R _ _ _ (_ :: _) _ _ _ _; refine R_op (by simp (maxSteps := 2000000) [hlt, hw, he2, V_works]; with_reducible rfl) ?_) | (show R _ _ _ [] _ _ _ _; refine R_nil (by simp; with_reducible rfl) ?_) | (show W _ (.seq (.cond _ _ _) _) _ _; first | refine W_ct (by first | (simp [hlt, hw, he2, V_works]; done) | fail) ?_ | refine W_cf (by first | (simp [hlt, hw, he2, V_works]; done) | fail) ?_) | refine W_skip ?_ | refine W_bl (c := .seq _ _) ?_ | refine W_bl (c := .region _ _) ?_ | refine W_bl (c := .cond _ _ _) ?_ | refine W_bl (c := .block _ _) ?_ | refine W_rt ?_ | refine W_ex ?_ | refine W_end ?_ | refine W_tail (a := .region _ _) ?_ | refine W_tail (a := .cond _ _ _) ?_ | refine W_tail (a := .ret) ?_ | refine W_tail (a := .exit _) ?_ | refine W_tail (a := .block _ _) ?_ | refine QB_normal ?_ | refine QB_exit ?_ | refine QB_ret ?_ | refine QB_out (by decide) ?_ | refine QL_next ?_ | refine QL_exit ?_ | refine QL_ret ?_ | refine QL_out (by decide) ?_ | (show Fin _ _ .ret _; exact Fin_ret (by first | (simp [c3]; done) | (simp [c3]; with_reducible rfl))) | (show Fin _ _ .normal _; exact Fin_end (by first | (simp [c3]; done) | (simp [c3]; with_reducible rfl))))
    · have he2 : ¬ (50 : Int) < (ps[i]).length := by omega
      refine W_round hc ?_
      unfold c3_l0
      repeat (first | refine W_assoc ?_ | (show W _ (.seq (.region _ _) _) _ _; refine W_reg (by simp; with_reducible rfl) ?_) | (show R _ _ _ (_ :: _) _ _ _ _; refine R_op (by simp (maxSteps := 2000000) [hlt, hw, he2, V_works]; with_reducible rfl) ?_) | (show R _ _ _ [] _ _ _ _; refine R_nil (by simp; with_reducible rfl) ?_) | (show W _ (.seq (.cond _ _ _) _) _ _; first | refine W_ct (by first | (simp [hlt, hw, he2, V_works]; done) | fail) ?_ | refine W_cf (by first | (simp [hlt, hw, he2, V_works]; done) | fail) ?_) | refine W_skip ?_ | refine W_bl (c := .seq _ _) ?_ | refine W_bl (c := .region _ _) ?_ | refine W_bl (c := .cond _ _ _) ?_ | refine W_bl (c := .block _ _) ?_ | refine W_rt ?_ | refine W_ex ?_ | refine W_end ?_ | refine W_tail (a := .region _ _) ?_ | refine W_tail (a := .cond _ _ _) ?_ | refine W_tail (a := .ret) ?_ | refine W_tail (a := .exit _) ?_ | refine W_tail (a := .block _ _) ?_ | refine QB_normal ?_ | refine QB_exit ?_ | refine QB_ret ?_ | refine QB_out (by decide) ?_ | refine QL_next ?_ | refine QL_exit ?_ | refine QL_ret ?_ | refine QL_out (by decide) ?_ | (show Fin _ _ .ret _; exact Fin_ret (by first | (simp [c3]; done) | (simp [c3]; with_reducible rfl))) | (show Fin _ _ .normal _; exact Fin_end (by first | (simp [c3]; done) | (simp [c3]; with_reducible rfl))))
      exact ih (i + 1) _ (by omega) (fun j h hj => by
        rcases Nat.lt_or_ge j i with h1 | h1
        · exact hb j h h1
        · obtain rfl : j = i := by omega
          omega) (by simp; try rfl)

theorem L_joins (op : Int) (ps : List (List P2)) : F T 3 [.int .i64 op, .ro 1 (enc eP ps) false] [] = some (.bool true, []) := by
  refine F_W T3 ?_
  simp only [c3, c3_b, Lift.start]
  by_cases hbig : 5 < ps.length
  · have hbig2 : (5 : Int) < ps.length := by omega
    repeat (first | refine W_assoc ?_ | (show W _ (.seq (.region _ _) _) _ _; refine W_reg (by simp; with_reducible rfl) ?_) | (show R _ _ _ (_ :: _) _ _ _ _; refine R_op (by simp (maxSteps := 2000000) [V_works, hbig2]; with_reducible rfl) ?_) | (show R _ _ _ [] _ _ _ _; refine R_nil (by simp; with_reducible rfl) ?_) | (show W _ (.seq (.cond _ _ _) _) _ _; first | refine W_ct (by first | (simp [V_works, hbig2]; done) | fail) ?_ | refine W_cf (by first | (simp [V_works, hbig2]; done) | fail) ?_) | refine W_skip ?_ | refine W_bl (c := .seq _ _) ?_ | refine W_bl (c := .region _ _) ?_ | refine W_bl (c := .cond _ _ _) ?_ | refine W_bl (c := .block _ _) ?_ | refine W_rt ?_ | refine W_ex ?_ | refine W_end ?_ | refine W_tail (a := .region _ _) ?_ | refine W_tail (a := .cond _ _ _) ?_ | refine W_tail (a := .ret) ?_ | refine W_tail (a := .exit _) ?_ | refine W_tail (a := .block _ _) ?_ | refine QB_normal ?_ | refine QB_exit ?_ | refine QB_ret ?_ | refine QB_out (by decide) ?_ | refine QL_next ?_ | refine QL_exit ?_ | refine QL_ret ?_ | refine QL_out (by decide) ?_ | (show Fin _ _ .ret _; exact Fin_ret (by first | (simp [c3]; done) | (simp [c3]; with_reducible rfl))) | (show Fin _ _ .normal _; exact Fin_end (by first | (simp [c3]; done) | (simp [c3]; with_reducible rfl))))
  · have hbig2 : ¬ (5 : Int) < ps.length := by omega
    repeat (first | refine W_assoc ?_ | (show W _ (.seq (.region _ _) _) _ _; refine W_reg (by simp; with_reducible rfl) ?_) | (show R _ _ _ (_ :: _) _ _ _ _; refine R_op (by simp (maxSteps := 2000000) [V_works, hbig2]; with_reducible rfl) ?_) | (show R _ _ _ [] _ _ _ _; refine R_nil (by simp; with_reducible rfl) ?_) | (show W _ (.seq (.cond _ _ _) _) _ _; first | refine W_ct (by first | (simp [V_works, hbig2]; done) | fail) ?_ | refine W_cf (by first | (simp [V_works, hbig2]; done) | fail) ?_) | refine W_skip ?_ | refine W_bl (c := .seq _ _) ?_ | refine W_bl (c := .region _ _) ?_ | refine W_bl (c := .cond _ _ _) ?_ | refine W_bl (c := .block _ _) ?_ | refine W_rt ?_ | refine W_ex ?_ | refine W_end ?_ | refine W_tail (a := .region _ _) ?_ | refine W_tail (a := .cond _ _ _) ?_ | refine W_tail (a := .ret) ?_ | refine W_tail (a := .exit _) ?_ | refine W_tail (a := .block _ _) ?_ | refine QB_normal ?_ | refine QB_exit ?_ | refine QB_ret ?_ | refine QB_out (by decide) ?_ | refine QL_next ?_ | refine QL_exit ?_ | refine QL_ret ?_ | refine QL_out (by decide) ?_ | (show Fin _ _ .ret _; exact Fin_ret (by first | (simp [c3]; done) | (simp [c3]; with_reducible rfl))) | (show Fin _ _ .normal _; exact Fin_end (by first | (simp [c3]; done) | (simp [c3]; with_reducible rfl))))
    exact law_loop op ps (by omega) ps.length 0 _ (by simp) (fun j h hj => by omega) (by simp; try rfl)
end Go.Proofs.Ytnobgooojbppbab.Join
