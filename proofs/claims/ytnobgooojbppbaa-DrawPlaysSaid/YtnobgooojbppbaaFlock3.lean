/- Sets of small numbers: the document's with, without, of, below, and the laws. -/
import Derived.Test.YtnobgooojbppbaaFlock2
set_option linter.all false
set_option linter.unusedSimpArgs false
set_option maxRecDepth 100000
set_option maxHeartbeats 2000000
namespace Go.Proofs.Ytnobgooojbppbaa.Flock
open Go Go.RowKit Go.Proofs.Ytnobgooojbppbaa.Lift Go.Proofs.Ytnobgooojbppbaa.TF Go.Proofs.Ytnobgooojbppbaa.Base Go.Proofs.Ytnobgooojbppbaa.FlockIn

theorem ofL_lst (x : Nat) (j : Nat) (hj : j < 64) : ofL (lst x 64) j = x.testBit j := by
  unfold ofL
  rw [lst_mem x 64 (by omega)]
  have h1 : (0 : Int) ≤ j := by omega
  have h2 : (j : Int) < (64 : Nat) := by omega
  have h3 : (j : Int) < 64 := by omega
  simp [h1, h3]

theorem V_R06with (x : Nat) (hx : x < 18446744073709551616) (k : Int) : FV (F T) 37 [.int .u64 x, .int .i64 k] = some (.int .u64 (wi x k)) := by
  have h1 := F_R06list x hx
  have hl := lst_len x 64
  have hb : ((lst x 64).length + 1) * 8 ≤ 140737488355328 := by omega
  have hb2 : (lst x 64).length + 1 ≤ 140737488355328 := by omega
  have h2 := FV_of (F_R06of (lst x 64 ++ [k]) (by simp; omega))
  have he : ofN (ofL (lst x 64 ++ [k])) 64 = wi x k := by
    unfold wi
    refine ofN_congr fun j hj => ?_
    have := ofL_lst x j hj
    unfold ofL at this ⊢
    simp [this]
  rw [he] at h2
  have h3 := F_R06of (lst x 64 ++ [k]) (by simp; omega)
  rw [he] at h3
  simp at h2
  refine FV_W T37 (r := ?r1) ?h1 ?v1
  case h1 =>
    simp only [c37, c37_b, Lift.start]
    repeat (first | refine W_assoc ?_ | (show W _ (.seq (.region _ _) _) _ _; refine W_reg (by simp; with_reducible rfl) ?_) | (show R _ _ _ (_ :: _) _ _ _ _; refine R_op (by simp (maxSteps := 2000000) [h1, h2, h3, hb, hb2]; with_reducible rfl) ?_) | (show R _ _ _ [] _ _ _ _; refine R_nil (by simp; with_reducible rfl) ?_) | (show W _ (.seq (.cond _ _ _) _) _ _; first | refine W_ct (by first | (simp [h1, h2, h3, hb, hb2]; done) | fail) ?_ | refine W_cf (by first | (simp [h1, h2, h3, hb, hb2]; done) | fail) ?_) | refine W_skip ?_ | refine W_bl (c := .seq _ _) ?_ | refine W_bl (c := .region _ _) ?_ | refine W_bl (c := .cond _ _ _) ?_ | refine W_bl (c := .block _ _) ?_ | refine W_rt ?_ | refine W_ex ?_ | refine W_end ?_ | refine W_tail (a := .region _ _) ?_ | refine W_tail (a := .cond _ _ _) ?_ | refine W_tail (a := .ret) ?_ | refine W_tail (a := .exit _) ?_ | refine W_tail (a := .block _ _) ?_ | refine QB_normal ?_ | refine QB_exit ?_ | refine QB_ret ?_ | refine QB_out (by decide) ?_ | refine QL_next ?_ | refine QL_exit ?_ | refine QL_ret ?_ | refine QL_out (by decide) ?_ | (show Fin _ _ .ret _; exact Fin_ret (by first | (simp [c37]; done) | (simp [c37]; with_reducible rfl))) | (show Fin _ _ .normal _; exact Fin_end (by first | (simp [c37]; done) | (simp [c37]; with_reducible rfl))))
  case v1 => simp

theorem wo_loop (x : Nat) (k : Int) (l : List Int) (hl : l.length ≤ 64) (hw0 : ofN (ofL (l.filter fun y => !decide (y = k))) 64 = wo x k) :
    ∀ (n i : Nat) (r : List Int) (st : ASt), i + n = l.length → r.length ≤ i → r ++ (l.drop i).filter (fun y => !decide (y = k)) = l.filter (fun y => !decide (y = k)) →
      canon [1, 5, 6, 7] st = ⟨[.top, .int .i64 k, .top, .top, .top, .ro 1 (enc (eInt .i64) l) false, .own 0 0 r.length, .int .i64 i, .top, .top, .top, .top, .top, .top, .top, .top, .top, .top, .top, .top, .top, .top, .top, .top, .top, .top, .top, .top, .top, .top, .top], [(0, ⟨3, 1, false, enc (eInt .i64) r, 0⟩)], 1, 0⟩ →
      W T c39_k0 st (Lift.Fin c39 (.int .u64 (wo x k), [])) := by
  intro n
  induction n with
  | zero =>
    intro i r st hi hr hf hc
    have h1 : ¬ i < l.length := by omega
    have e1 : l.drop i = [] := List.drop_of_length_le (by omega)
    rw [e1] at hf
    simp only [List.filter_nil, List.append_nil] at hf
    have h2 := F_R06of r (by omega)
    have h3 := FV_of h2
    rw [hf, hw0] at h2 h3
    rw [← hf] at h2 h3
    simp at h3
    unfold c39_k0
    refine W_round hc ?_
    unfold c39_l0
    repeat (first | refine W_assoc ?_ | (show W _ (.seq (.region _ _) _) _ _; refine W_reg (by simp; with_reducible rfl) ?_) | (show R _ _ _ (_ :: _) _ _ _ _; refine R_op (by simp (maxSteps := 2000000) [h1, h2, h3]; with_reducible rfl) ?_) | (show R _ _ _ [] _ _ _ _; refine R_nil (by simp; with_reducible rfl) ?_) | (show W _ (.seq (.cond _ _ _) _) _ _; first | refine W_ct (by first | (simp [h1, h2, h3]; done) | fail) ?_ | refine W_cf (by first | (simp [h1, h2, h3]; done) | fail) ?_) | refine W_skip ?_ | refine W_bl (c := .seq _ _) ?_ | refine W_bl (c := .region _ _) ?_ | refine W_bl (c := .cond _ _ _) ?_ | refine W_bl (c := .block _ _) ?_ | refine W_rt ?_ | refine W_ex ?_ | refine W_end ?_ | refine W_tail (a := .region _ _) ?_ | refine W_tail (a := .cond _ _ _) ?_ | refine W_tail (a := .ret) ?_ | refine W_tail (a := .exit _) ?_ | refine W_tail (a := .block _ _) ?_ | refine QB_normal ?_ | refine QB_exit ?_ | refine QB_ret ?_ | refine QB_out (by decide) ?_ | refine QL_next ?_ | refine QL_exit ?_ | refine QL_ret ?_ | refine QL_out (by decide) ?_ | (show Fin _ _ .ret _; exact Fin_ret (by first | (simp [c39]; done) | (simp [c39]; with_reducible rfl))) | (show Fin _ _ .normal _; exact Fin_end (by first | (simp [c39]; done) | (simp [c39]; with_reducible rfl))))
  | succ n ih =>
    intro i r st hi hr hf hc
    have hlt : i < l.length := by omega
    have hw := wrapS i _ hlt (by omega)
    have hb : (r.length + 1) * 8 ≤ 140737488355328 := by omega
    have hb2 : r.length + 1 ≤ 140737488355328 := by omega
    rw [List.drop_eq_getElem_cons hlt, List.filter_cons] at hf
    unfold c39_k0
    refine W_round hc ?_
    unfold c39_l0
    by_cases he : l[i] = k
    · simp only [he, decide_true, Bool.not_true, Bool.false_eq_true, if_false] at hf
      repeat (first | refine W_assoc ?_ | (show W _ (.seq (.region _ _) _) _ _; refine W_reg (by simp; with_reducible rfl) ?_) | (show R _ _ _ (_ :: _) _ _ _ _; refine R_op (by simp (maxSteps := 2000000) [hlt, hw, he]; with_reducible rfl) ?_) | (show R _ _ _ [] _ _ _ _; refine R_nil (by simp; with_reducible rfl) ?_) | (show W _ (.seq (.cond _ _ _) _) _ _; first | refine W_ct (by first | (simp [hlt, hw, he]; done) | fail) ?_ | refine W_cf (by first | (simp [hlt, hw, he]; done) | fail) ?_) | refine W_skip ?_ | refine W_bl (c := .seq _ _) ?_ | refine W_bl (c := .region _ _) ?_ | refine W_bl (c := .cond _ _ _) ?_ | refine W_bl (c := .block _ _) ?_ | refine W_rt ?_ | refine W_ex ?_ | refine W_end ?_ | refine W_tail (a := .region _ _) ?_ | refine W_tail (a := .cond _ _ _) ?_ | refine W_tail (a := .ret) ?_ | refine W_tail (a := .exit _) ?_ | refine W_tail (a := .block _ _) ?_ | refine QB_normal ?_ | refine QB_exit ?_ | refine QB_ret ?_ | refine QB_out (by decide) ?_ | refine QL_next ?_ | refine QL_exit ?_ | refine QL_ret ?_ | refine QL_out (by decide) ?_ | (show Fin _ _ .ret _; exact Fin_ret (by first | (simp; done) | (simp; with_reducible rfl))) | (show Fin _ _ .normal _; exact Fin_end (by first | (simp; done) | (simp; with_reducible rfl))))
      refine ih (i + 1) r _ ?_ ?_ ?_ ?_
      · omega
      · omega
      · exact hf
      · simp
    · simp only [he, decide_false, Bool.not_false, if_true] at hf
      repeat (first | refine W_assoc ?_ | (show W _ (.seq (.region _ _) _) _ _; refine W_reg (by simp; with_reducible rfl) ?_) | (show R _ _ _ (_ :: _) _ _ _ _; refine R_op (by simp (maxSteps := 2000000) [hlt, hw, he, hb, hb2]; with_reducible rfl) ?_) | (show R _ _ _ [] _ _ _ _; refine R_nil (by simp; with_reducible rfl) ?_) | (show W _ (.seq (.cond _ _ _) _) _ _; first | refine W_ct (by first | (simp [hlt, hw, he, hb, hb2]; done) | fail) ?_ | refine W_cf (by first | (simp [hlt, hw, he, hb, hb2]; done) | fail) ?_) | refine W_skip ?_ | refine W_bl (c := .seq _ _) ?_ | refine W_bl (c := .region _ _) ?_ | refine W_bl (c := .cond _ _ _) ?_ | refine W_bl (c := .block _ _) ?_ | refine W_rt ?_ | refine W_ex ?_ | refine W_end ?_ | refine W_tail (a := .region _ _) ?_ | refine W_tail (a := .cond _ _ _) ?_ | refine W_tail (a := .ret) ?_ | refine W_tail (a := .exit _) ?_ | refine W_tail (a := .block _ _) ?_ | refine QB_normal ?_ | refine QB_exit ?_ | refine QB_ret ?_ | refine QB_out (by decide) ?_ | refine QL_next ?_ | refine QL_exit ?_ | refine QL_ret ?_ | refine QL_out (by decide) ?_ | (show Fin _ _ .ret _; exact Fin_ret (by first | (simp; done) | (simp; with_reducible rfl))) | (show Fin _ _ .normal _; exact Fin_end (by first | (simp; done) | (simp; with_reducible rfl))))
      refine ih (i + 1) (r ++ [l[i]]) _ ?_ ?_ ?_ ?_
      · omega
      · simp; omega
      · rw [List.append_assoc]; exact hf
      · simp

theorem V_R06without (x : Nat) (hx : x < 18446744073709551616) (k : Int) : FV (F T) 39 [.int .u64 x, .int .i64 k] = some (.int .u64 (wo x k)) := by
  have h1 := V_R06list x hx
  have hl := lst_len x 64
  have he : ofN (ofL ((lst x 64).filter fun y => !decide (y = k))) 64 = wo x k := by
    unfold wo
    refine ofN_congr fun j hj => ?_
    have h2 := ofL_lst x j hj
    unfold ofL at h2 ⊢
    rw [List.any_filter]
    by_cases hk : k = (j : Int)
    · subst hk
      simp
    · have e : (fun y : Int => !decide (y = k) && decide (y = (j : Int))) = fun y => decide (y = (j : Int)) := by
        funext y
        by_cases hy : y = (j : Int)
        · have : ¬ y = k := fun e => hk (by rw [← e, hy])
          simp [hy, this]
          intro e; exact hk e.symm
        · simp [hy]
      rw [e, h2]
      simp [hk]
  have h : F T 39 [.int .u64 x, .int .i64 k] [] = some (.int .u64 (wo x k), []) := by
    refine F_W T39 ?_
    simp only [c39, c39_b, Lift.start]
    repeat (first | refine W_assoc ?_ | (show W _ (.seq (.region _ _) _) _ _; refine W_reg (by simp; with_reducible rfl) ?_) | (show R _ _ _ (_ :: _) _ _ _ _; refine R_op (by simp (maxSteps := 2000000) [h1]; with_reducible rfl) ?_) | (show R _ _ _ [] _ _ _ _; refine R_nil (by simp; with_reducible rfl) ?_) | (show W _ (.seq (.cond _ _ _) _) _ _; first | refine W_ct (by first | (simp [h1]; done) | fail) ?_ | refine W_cf (by first | (simp [h1]; done) | fail) ?_) | refine W_skip ?_ | refine W_bl (c := .seq _ _) ?_ | refine W_bl (c := .region _ _) ?_ | refine W_bl (c := .cond _ _ _) ?_ | refine W_bl (c := .block _ _) ?_ | refine W_rt ?_ | refine W_ex ?_ | refine W_end ?_ | refine W_tail (a := .region _ _) ?_ | refine W_tail (a := .cond _ _ _) ?_ | refine W_tail (a := .ret) ?_ | refine W_tail (a := .exit _) ?_ | refine W_tail (a := .block _ _) ?_ | refine QB_normal ?_ | refine QB_exit ?_ | refine QB_ret ?_ | refine QB_out (by decide) ?_ | refine QL_next ?_ | refine QL_exit ?_ | refine QL_ret ?_ | refine QL_out (by decide) ?_ | (show Fin _ _ .ret _; exact Fin_ret (by first | (simp; done) | (simp; with_reducible rfl))) | (show Fin _ _ .normal _; exact Fin_end (by first | (simp; done) | (simp; with_reducible rfl))))
    refine wo_loop x k (lst x 64) hl he (lst x 64).length 0 [] _ ?_ ?_ ?_ ?_
    · simp
    · simp
    · simp
    · simp
  simpa using FV_of h

end Go.Proofs.Ytnobgooojbppbaa.Flock
