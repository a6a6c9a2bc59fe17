/- An outbox, however it is used. -/
import Derived.Test.YtjpccbjgmogclaaSent
set_option linter.all false
set_option linter.unusedSimpArgs false
set_option maxRecDepth 100000
set_option maxHeartbeats 4000000
namespace Go.Proofs.Ytjpccbjgmogclaa.Sent
open Go Go.RowKit Go.Proofs.Ytjpccbjgmogclaa.Lift Go.Proofs.Ytjpccbjgmogclaa.TLK Go.Proofs.Ytjpccbjgmogclaa.Base

theorem V_Learn (p q w l a : Int) (S : List ByteArray) (hS : S.length ≤ 100000) :
    FV (F T) 108 [.agg [.int .i64 p, .int .i64 q, .ro 1 (enc eStr S) false, .int .i64 w, .int .i64 l], .int .i64 a] = some (
      if a ≤ p then .tup [.agg [.int .i64 p, .int .i64 q, .ro 1 (enc eStr S) false, .int .i64 w, .int .i64 l], .bool false]
      else if S = [] then .tup [.agg [.int .i64 a, .int .i64 1, .ro 1 (enc eStr S) false, .int .i64 w, .int .i64 l], .bool false]
      else .tup [.agg [.int .i64 a, .int .i64 1, .ro 1 (enc eStr S) false, .int .i64 1, .int .i64 1], .bool true]) := by
  by_cases h1 : a ≤ p
  · rw [if_pos h1]
    have h : F T 108 [.agg [.int .i64 p, .int .i64 q, .ro 1 (enc eStr S) false, .int .i64 w, .int .i64 l], .int .i64 a] [] = some (.tup [.agg [.int .i64 p, .int .i64 q, .ro 1 (enc eStr S) false, .int .i64 w, .int .i64 l], .bool false], []) := by
      refine F_W T108 ?_
      simp only [c108, c108_b, Lift.start]
      repeat (first | refine W_assoc ?_ | (show W _ (.seq (.region _ _) _) _ _; refine W_reg (by simp; with_reducible rfl) ?_) | (show R _ _ _ (_ :: _) _ _ _ _; refine R_op (by simp (maxSteps := 2000000) [h1]; with_reducible rfl) ?_) | (show R _ _ _ [] _ _ _ _; refine R_nil (by simp; with_reducible rfl) ?_) | (show W _ (.seq (.cond _ _ _) _) _ _; first | refine W_ct (by first | (simp [h1]; done) | fail) ?_ | refine W_cf (by first | (simp [h1]; done) | fail) ?_) | refine W_skip ?_ | refine W_bl (c := .seq _ _) ?_ | refine W_bl (c := .region _ _) ?_ | refine W_bl (c := .cond _ _ _) ?_ | refine W_bl (c := .block _ _) ?_ | refine W_rt ?_ | refine W_ex ?_ | refine W_end ?_ | refine W_tail (a := .region _ _) ?_ | refine W_tail (a := .cond _ _ _) ?_ | refine W_tail (a := .ret) ?_ | refine W_tail (a := .exit _) ?_ | refine W_tail (a := .block _ _) ?_ | refine QB_normal ?_ | refine QB_exit ?_ | refine QB_ret ?_ | refine QB_out (by decide) ?_ | refine QL_next ?_ | refine QL_exit ?_ | refine QL_ret ?_ | refine QL_out (by decide) ?_ | (show Fin _ _ .ret _; exact Fin_ret (by first | (simp [c108]; done) | (simp [c108]; with_reducible rfl))) | (show Fin _ _ .normal _; exact Fin_end (by first | (simp [c108]; done) | (simp [c108]; with_reducible rfl))))
    simpa using FV_of h
  · rw [if_neg h1]
    have f1 := V_sends a 1 w l S false hS
    by_cases h2 : S = []
    · rw [if_pos h2] at f1 ⊢
      have h : F T 108 [.agg [.int .i64 p, .int .i64 q, .ro 1 (enc eStr S) false, .int .i64 w, .int .i64 l], .int .i64 a] [] = some (.tup [.agg [.int .i64 a, .int .i64 1, .ro 1 (enc eStr S) false, .int .i64 w, .int .i64 l], .bool false], []) := by
        refine F_W T108 ?_
        simp only [c108, c108_b, Lift.start]
        repeat (first | refine W_assoc ?_ | (show W _ (.seq (.region _ _) _) _ _; refine W_reg (by simp; with_reducible rfl) ?_) | (show R _ _ _ (_ :: _) _ _ _ _; refine R_op (by simp (maxSteps := 2000000) [h1, f1]; with_reducible rfl) ?_) | (show R _ _ _ [] _ _ _ _; refine R_nil (by simp; with_reducible rfl) ?_) | (show W _ (.seq (.cond _ _ _) _) _ _; first | refine W_ct (by first | (simp [h1, f1]; done) | fail) ?_ | refine W_cf (by first | (simp [h1, f1]; done) | fail) ?_) | refine W_skip ?_ | refine W_bl (c := .seq _ _) ?_ | refine W_bl (c := .region _ _) ?_ | refine W_bl (c := .cond _ _ _) ?_ | refine W_bl (c := .block _ _) ?_ | refine W_rt ?_ | refine W_ex ?_ | refine W_end ?_ | refine W_tail (a := .region _ _) ?_ | refine W_tail (a := .cond _ _ _) ?_ | refine W_tail (a := .ret) ?_ | refine W_tail (a := .exit _) ?_ | refine W_tail (a := .block _ _) ?_ | refine QB_normal ?_ | refine QB_exit ?_ | refine QB_ret ?_ | refine QB_out (by decide) ?_ | refine QL_next ?_ | refine QL_exit ?_ | refine QL_ret ?_ | refine QL_out (by decide) ?_ | (show Fin _ _ .ret _; exact Fin_ret (by first | (simp [c108]; done) | (simp [c108]; with_reducible rfl))) | (show Fin _ _ .normal _; exact Fin_end (by first | (simp [c108]; done) | (simp [c108]; with_reducible rfl))))
      simpa using FV_of h
    · rw [if_neg h2] at f1 ⊢
      have h : F T 108 [.agg [.int .i64 p, .int .i64 q, .ro 1 (enc eStr S) false, .int .i64 w, .int .i64 l], .int .i64 a] [] = some (.tup [.agg [.int .i64 a, .int .i64 1, .ro 1 (enc eStr S) false, .int .i64 1, .int .i64 1], .bool true], []) := by
        refine F_W T108 ?_
        simp only [c108, c108_b, Lift.start]
        repeat (first | refine W_assoc ?_ | (show W _ (.seq (.region _ _) _) _ _; refine W_reg (by simp; with_reducible rfl) ?_) | (show R _ _ _ (_ :: _) _ _ _ _; refine R_op (by simp (maxSteps := 2000000) [h1, f1]; with_reducible rfl) ?_) | (show R _ _ _ [] _ _ _ _; refine R_nil (by simp; with_reducible rfl) ?_) | (show W _ (.seq (.cond _ _ _) _) _ _; first | refine W_ct (by first | (simp [h1, f1]; done) | fail) ?_ | refine W_cf (by first | (simp [h1, f1]; done) | fail) ?_) | refine W_skip ?_ | refine W_bl (c := .seq _ _) ?_ | refine W_bl (c := .region _ _) ?_ | refine W_bl (c := .cond _ _ _) ?_ | refine W_bl (c := .block _ _) ?_ | refine W_rt ?_ | refine W_ex ?_ | refine W_end ?_ | refine W_tail (a := .region _ _) ?_ | refine W_tail (a := .cond _ _ _) ?_ | refine W_tail (a := .ret) ?_ | refine W_tail (a := .exit _) ?_ | refine W_tail (a := .block _ _) ?_ | refine QB_normal ?_ | refine QB_exit ?_ | refine QB_ret ?_ | refine QB_out (by decide) ?_ | refine QL_next ?_ | refine QL_exit ?_ | refine QL_ret ?_ | refine QL_out (by decide) ?_ | (show Fin _ _ .ret _; exact Fin_ret (by first | (simp [c108]; done) | (simp [c108]; with_reducible rfl))) | (show Fin _ _ .normal _; exact Fin_end (by first | (simp [c108]; done) | (simp [c108]; with_reducible rfl))))
      simpa using FV_of h

/-- What a tick does. -/
theorem V_STick (p q w l : Int) (S : List ByteArray) (f : Bool) (hS : S.length ≤ 100000) (hw : S ≠ [] → wok w ∧ 1 ≤ l ∧ l ≤ w) :
    FV (F T) 59 [.agg [.int .i64 p, .int .i64 q, .ro 1 (enc eStr S) f, .int .i64 w, .int .i64 l]] = some (
      if S = [] then .tup [.agg [.int .i64 p, .int .i64 q, .ro 1 (enc eStr S) f, .int .i64 w, .int .i64 l], .bool false]
      else if l = 1 then .tup [.agg [.int .i64 p, .int .i64 q, .ro 1 (enc eStr S) f, .int .i64 (nxt w), .int .i64 (nxt w)], .bool true]
      else .tup [.agg [.int .i64 p, .int .i64 q, .ro 1 (enc eStr S) f, .int .i64 w, .int .i64 (l - 1)], .bool false]) := by
  by_cases h4 : S = []
  · rw [if_pos h4]
    subst h4
    have h : F T 59 [.agg [.int .i64 p, .int .i64 q, .ro 1 (enc eStr []) f, .int .i64 w, .int .i64 l]] [] = some (.tup [.agg [.int .i64 p, .int .i64 q, .ro 1 (enc eStr []) f, .int .i64 w, .int .i64 l], .bool false], []) := by
      refine F_W T59 ?_
      simp only [c59, c59_b, Lift.start]
      repeat (first | refine W_assoc ?_ | (show W _ (.seq (.region _ _) _) _ _; refine W_reg (by simp; with_reducible rfl) ?_) | (show R _ _ _ (_ :: _) _ _ _ _; refine R_op (by simp (maxSteps := 2000000); with_reducible rfl) ?_) | (show R _ _ _ [] _ _ _ _; refine R_nil (by simp; with_reducible rfl) ?_) | (show W _ (.seq (.cond _ _ _) _) _ _; first | refine W_ct (by first | (simp; done) | fail) ?_ | refine W_cf (by first | (simp; done) | fail) ?_) | refine W_skip ?_ | refine W_bl (c := .seq _ _) ?_ | refine W_bl (c := .region _ _) ?_ | refine W_bl (c := .cond _ _ _) ?_ | refine W_bl (c := .block _ _) ?_ | refine W_rt ?_ | refine W_ex ?_ | refine W_end ?_ | refine W_tail (a := .region _ _) ?_ | refine W_tail (a := .cond _ _ _) ?_ | refine W_tail (a := .ret) ?_ | refine W_tail (a := .exit _) ?_ | refine W_tail (a := .block _ _) ?_ | refine QB_normal ?_ | refine QB_exit ?_ | refine QB_ret ?_ | refine QB_out (by decide) ?_ | refine QL_next ?_ | refine QL_exit ?_ | refine QL_ret ?_ | refine QL_out (by decide) ?_ | (show Fin _ _ .ret _; exact Fin_ret (by first | (simp [c59]; done) | (simp [c59]; with_reducible rfl))) | (show Fin _ _ .normal _; exact Fin_end (by first | (simp [c59]; done) | (simp [c59]; with_reducible rfl))))
    simpa using FV_of h
  · rw [if_neg h4]
    obtain ⟨h1, h2, h3⟩ := hw h4
    have f1 := V_tick w l h1 h2 h3
    by_cases h5 : l = 1
    · rw [if_pos h5] at f1 ⊢
      have h : F T 59 [.agg [.int .i64 p, .int .i64 q, .ro 1 (enc eStr S) f, .int .i64 w, .int .i64 l]] [] = some (.tup [.agg [.int .i64 p, .int .i64 q, .ro 1 (enc eStr S) f, .int .i64 (nxt w), .int .i64 (nxt w)], .bool true], []) := by
        refine F_W T59 ?_
        simp only [c59, c59_b, Lift.start]
        repeat (first | refine W_assoc ?_ | (show W _ (.seq (.region _ _) _) _ _; refine W_reg (by simp; with_reducible rfl) ?_) | (show R _ _ _ (_ :: _) _ _ _ _; refine R_op (by simp (maxSteps := 2000000) [h4, f1]; with_reducible rfl) ?_) | (show R _ _ _ [] _ _ _ _; refine R_nil (by simp; with_reducible rfl) ?_) | (show W _ (.seq (.cond _ _ _) _) _ _; first | refine W_ct (by first | (simp [h4, f1]; done) | fail) ?_ | refine W_cf (by first | (simp [h4, f1]; done) | fail) ?_) | refine W_skip ?_ | refine W_bl (c := .seq _ _) ?_ | refine W_bl (c := .region _ _) ?_ | refine W_bl (c := .cond _ _ _) ?_ | refine W_bl (c := .block _ _) ?_ | refine W_rt ?_ | refine W_ex ?_ | refine W_end ?_ | refine W_tail (a := .region _ _) ?_ | refine W_tail (a := .cond _ _ _) ?_ | refine W_tail (a := .ret) ?_ | refine W_tail (a := .exit _) ?_ | refine W_tail (a := .block _ _) ?_ | refine QB_normal ?_ | refine QB_exit ?_ | refine QB_ret ?_ | refine QB_out (by decide) ?_ | refine QL_next ?_ | refine QL_exit ?_ | refine QL_ret ?_ | refine QL_out (by decide) ?_ | (show Fin _ _ .ret _; exact Fin_ret (by first | (simp [c59]; done) | (simp [c59]; with_reducible rfl))) | (show Fin _ _ .normal _; exact Fin_end (by first | (simp [c59]; done) | (simp [c59]; with_reducible rfl))))
      simpa using FV_of h
    · rw [if_neg h5] at f1 ⊢
      have h : F T 59 [.agg [.int .i64 p, .int .i64 q, .ro 1 (enc eStr S) f, .int .i64 w, .int .i64 l]] [] = some (.tup [.agg [.int .i64 p, .int .i64 q, .ro 1 (enc eStr S) f, .int .i64 w, .int .i64 (l - 1)], .bool false], []) := by
        refine F_W T59 ?_
        simp only [c59, c59_b, Lift.start]
        repeat (first | refine W_assoc ?_ | (show W _ (.seq (.region _ _) _) _ _; refine W_reg (by simp; with_reducible rfl) ?_) | (show R _ _ _ (_ :: _) _ _ _ _; refine R_op (by simp (maxSteps := 2000000) [h4, f1]; with_reducible rfl) ?_) | (show R _ _ _ [] _ _ _ _; refine R_nil (by simp; with_reducible rfl) ?_) | (show W _ (.seq (.cond _ _ _) _) _ _; first | refine W_ct (by first | (simp [h4, f1]; done) | fail) ?_ | refine W_cf (by first | (simp [h4, f1]; done) | fail) ?_) | refine W_skip ?_ | refine W_bl (c := .seq _ _) ?_ | refine W_bl (c := .region _ _) ?_ | refine W_bl (c := .cond _ _ _) ?_ | refine W_bl (c := .block _ _) ?_ | refine W_rt ?_ | refine W_ex ?_ | refine W_end ?_ | refine W_tail (a := .region _ _) ?_ | refine W_tail (a := .cond _ _ _) ?_ | refine W_tail (a := .ret) ?_ | refine W_tail (a := .exit _) ?_ | refine W_tail (a := .block _ _) ?_ | refine QB_normal ?_ | refine QB_exit ?_ | refine QB_ret ?_ | refine QB_out (by decide) ?_ | refine QL_next ?_ | refine QL_exit ?_ | refine QL_ret ?_ | refine QL_out (by decide) ?_ | (show Fin _ _ .ret _; exact Fin_ret (by first | (simp [c59]; done) | (simp [c59]; with_reducible rfl))) | (show Fin _ _ .normal _; exact Fin_end (by first | (simp [c59]; done) | (simp [c59]; with_reducible rfl))))
      simpa using FV_of h

theorem place_loop (t : ByteArray) (l : List ByteArray) (f : Bool) (hl : l.length ≤ 140737488355328) :
    ∀ (k i : Nat) (st : ASt), i + k = l.length → canon [0, 1, 5] st = ⟨[.ro 1 (enc eStr l) f, .str t, .top, .top, .top, .int .i64 i, .top, .top, .top, .top, .top, .top, .top, .top, .top, .top, .top, .top, .top], [], 0, 0⟩ →
      W T c31_k0 st (Lift.Fin c31 (.int .i64 (fidxF t l i), [])) := by
  intro k
  induction k with
  | zero =>
    intro i st hi hc
    have h1 : ¬ i < l.length := by omega
    have e1 : l.drop i = [] := List.drop_of_length_le (by omega)
    rw [fidxF_end t l i e1]
    unfold c31_k0
    refine W_round hc ?_
    unfold c31_l0
    repeat (first | refine W_assoc ?_ | (show W _ (.seq (.region _ _) _) _ _; refine W_reg (by simp; with_reducible rfl) ?_) | (show R _ _ _ (_ :: _) _ _ _ _; refine R_op (by simp (maxSteps := 2000000) [h1]; with_reducible rfl) ?_) | (show R _ _ _ [] _ _ _ _; refine R_nil (by simp; with_reducible rfl) ?_) | (show W _ (.seq (.cond _ _ _) _) _ _; first | refine W_ct (by first | (simp [h1]; done) | fail) ?_ | refine W_cf (by first | (simp [h1]; done) | fail) ?_) | refine W_skip ?_ | refine W_bl (c := .seq _ _) ?_ | refine W_bl (c := .region _ _) ?_ | refine W_bl (c := .cond _ _ _) ?_ | refine W_bl (c := .block _ _) ?_ | refine W_rt ?_ | refine W_ex ?_ | refine W_end ?_ | refine W_tail (a := .region _ _) ?_ | refine W_tail (a := .cond _ _ _) ?_ | refine W_tail (a := .ret) ?_ | refine W_tail (a := .exit _) ?_ | refine W_tail (a := .block _ _) ?_ | refine QB_normal ?_ | refine QB_exit ?_ | refine QB_ret ?_ | refine QB_out (by decide) ?_ | refine QL_next ?_ | refine QL_exit ?_ | refine QL_ret ?_ | refine QL_out (by decide) ?_ | (show Fin _ _ .ret _; exact Fin_ret (by first | (simp [c31]; done) | (simp [c31]; with_reducible rfl))) | (show Fin _ _ .normal _; exact Fin_end (by first | (simp [c31]; done) | (simp [c31]; with_reducible rfl))))
  | succ k ih =>
    intro i st hi hc
    have hlt : i < l.length := by omega
    have hw := wrapS i _ hlt hl
    unfold c31_k0
    by_cases he : l[i] = t
    · rw [fidxF_hit t l i hlt he]
      refine W_round hc ?_
      unfold c31_l0
      repeat (first | refine W_assoc ?_ | (show W _ (.seq (.region _ _) _) _ _; refine W_reg (by simp; with_reducible rfl) ?_) | (show R _ _ _ (_ :: _) _ _ _ _; refine R_op (by simp (maxSteps := 2000000) [hlt, hw, he]; with_reducible rfl) ?_) | (show R _ _ _ [] _ _ _ _; refine R_nil (by simp; with_reducible rfl) ?_) | (show W _ (.seq (.cond _ _ _) _) _ _; first | refine W_ct (by first | (simp [hlt, hw, he]; done) | fail) ?_ | refine W_cf (by first | (simp [hlt, hw, he]; done) | fail) ?_) | refine W_skip ?_ | refine W_bl (c := .seq _ _) ?_ | refine W_bl (c := .region _ _) ?_ | refine W_bl (c := .cond _ _ _) ?_ | refine W_bl (c := .block _ _) ?_ | refine W_rt ?_ | refine W_ex ?_ | refine W_end ?_ | refine W_tail (a := .region _ _) ?_ | refine W_tail (a := .cond _ _ _) ?_ | refine W_tail (a := .ret) ?_ | refine W_tail (a := .exit _) ?_ | refine W_tail (a := .block _ _) ?_ | refine QB_normal ?_ | refine QB_exit ?_ | refine QB_ret ?_ | refine QB_out (by decide) ?_ | refine QL_next ?_ | refine QL_exit ?_ | refine QL_ret ?_ | refine QL_out (by decide) ?_ | (show Fin _ _ .ret _; exact Fin_ret (by first | (simp [c31]; done) | (simp [c31]; with_reducible rfl))) | (show Fin _ _ .normal _; exact Fin_end (by first | (simp [c31]; done) | (simp [c31]; with_reducible rfl))))
    · rw [fidxF_miss t l i hlt he]
      refine W_round hc ?_
      unfold c31_l0
      repeat (first | refine W_assoc ?_ | (show W _ (.seq (.region _ _) _) _ _; refine W_reg (by simp; with_reducible rfl) ?_) | (show R _ _ _ (_ :: _) _ _ _ _; refine R_op (by simp (maxSteps := 2000000) [hlt, hw, he]; with_reducible rfl) ?_) | (show R _ _ _ [] _ _ _ _; refine R_nil (by simp; with_reducible rfl) ?_) | (show W _ (.seq (.cond _ _ _) _) _ _; first | refine W_ct (by first | (simp [hlt, hw, he]; done) | fail) ?_ | refine W_cf (by first | (simp [hlt, hw, he]; done) | fail) ?_) | refine W_skip ?_ | refine W_bl (c := .seq _ _) ?_ | refine W_bl (c := .region _ _) ?_ | refine W_bl (c := .cond _ _ _) ?_ | refine W_bl (c := .block _ _) ?_ | refine W_rt ?_ | refine W_ex ?_ | refine W_end ?_ | refine W_tail (a := .region _ _) ?_ | refine W_tail (a := .cond _ _ _) ?_ | refine W_tail (a := .ret) ?_ | refine W_tail (a := .exit _) ?_ | refine W_tail (a := .block _ _) ?_ | refine QB_normal ?_ | refine QB_exit ?_ | refine QB_ret ?_ | refine QB_out (by decide) ?_ | refine QL_next ?_ | refine QL_exit ?_ | refine QL_ret ?_ | refine QL_out (by decide) ?_ | (show Fin _ _ .ret _; exact Fin_ret (by first | (simp [c31]; done) | (simp [c31]; with_reducible rfl))) | (show Fin _ _ .normal _; exact Fin_end (by first | (simp [c31]; done) | (simp [c31]; with_reducible rfl))))
      exact ih (i + 1) _ (by omega) (by simp; try rfl)

theorem V_Place (t : ByteArray) (l : List ByteArray) (f : Bool) (hl : l.length ≤ 100000) : FV (F T) 31 [.ro 1 (enc eStr l) f, .str t] = some (.int .i64 (fidxF t l 0)) := by
  have h : F T 31 [.ro 1 (enc eStr l) f, .str t] [] = some (.int .i64 (fidxF t l 0), []) := by
    refine F_W T31 ?_
    simp only [c31, c31_b, Lift.start]
    repeat (first | refine W_assoc ?_ | (show W _ (.seq (.region _ _) _) _ _; refine W_reg (by simp; with_reducible rfl) ?_) | (show R _ _ _ (_ :: _) _ _ _ _; refine R_op (by simp (maxSteps := 2000000); with_reducible rfl) ?_) | (show R _ _ _ [] _ _ _ _; refine R_nil (by simp; with_reducible rfl) ?_) | (show W _ (.seq (.cond _ _ _) _) _ _; first | refine W_ct (by first | (simp; done) | fail) ?_ | refine W_cf (by first | (simp; done) | fail) ?_) | refine W_skip ?_ | refine W_bl (c := .seq _ _) ?_ | refine W_bl (c := .region _ _) ?_ | refine W_bl (c := .cond _ _ _) ?_ | refine W_bl (c := .block _ _) ?_ | refine W_rt ?_ | refine W_ex ?_ | refine W_end ?_ | refine W_tail (a := .region _ _) ?_ | refine W_tail (a := .cond _ _ _) ?_ | refine W_tail (a := .ret) ?_ | refine W_tail (a := .exit _) ?_ | refine W_tail (a := .block _ _) ?_ | refine QB_normal ?_ | refine QB_exit ?_ | refine QB_ret ?_ | refine QB_out (by decide) ?_ | refine QL_next ?_ | refine QL_exit ?_ | refine QL_ret ?_ | refine QL_out (by decide) ?_ | (show Fin _ _ .ret _; exact Fin_ret (by first | (simp; done) | (simp; with_reducible rfl))) | (show Fin _ _ .normal _; exact Fin_end (by first | (simp; done) | (simp; with_reducible rfl))))
    exact place_loop t l f (by omega) l.length 0 _ (by omega) (by simp; try rfl)
  simpa using FV_of h

end Go.Proofs.Ytjpccbjgmogclaa.Sent
