/- Messages: what the program's and the document's functions come to. -/
import Derived.Test.YtnobgooojbppbacOctRef
import Derived.Test.YtnobgooojbppbacMsgPure
set_option linter.all false
set_option linter.unusedSimpArgs false
set_option maxRecDepth 100000
set_option maxHeartbeats 8000000
namespace Go.Proofs.Ytnobgooojbppbac.Oct
open Go Go.RowKit Go.Proofs.Ytnobgooojbppbac.Lift Go.Proofs.Ytnobgooojbppbac.TOC Go.Proofs.Ytnobgooojbppbac.Base

/-- The fields of a kind, as bits. -/
def fieldsB (j t e : Bool) : Int := (if j = true then 1 else 0) + ((if t = true then 2 else 0) + (if e = true then 4 else 0))

theorem V_fields (k : Int) : FV (F T) 59 [.int .i64 k] = some (.int .i64 (fieldsB (hasJ k) (hasT k) (hasE k))) := by
  by_cases h1 : k = 1
  · subst h1
    rw [show fieldsB (hasJ 1) (hasT 1) (hasE 1) = 5 by decide]
    refine FV_W T59 (r := ?r1) ?h1 ?v1
    case h1 =>
      simp only [c59, c59_b, Lift.start]
      repeat (first | refine W_assoc ?_ | (show W _ (.seq (.region _ _) _) _ _; refine W_reg (by simp; with_reducible rfl) ?_) | (show R _ _ _ (_ :: _) _ _ _ _; refine R_op (by simp (maxSteps := 2000000); with_reducible rfl) ?_) | (show R _ _ _ [] _ _ _ _; refine R_nil (by simp; with_reducible rfl) ?_) | (show W _ (.seq (.cond _ _ _) _) _ _; first | refine W_ct (by first | (simp; done) | fail) ?_ | refine W_cf (by first | (simp; done) | fail) ?_) | refine W_skip ?_ | refine W_bl (c := .seq _ _) ?_ | refine W_bl (c := .region _ _) ?_ | refine W_bl (c := .cond _ _ _) ?_ | refine W_bl (c := .block _ _) ?_ | refine W_rt ?_ | refine W_ex ?_ | refine W_end ?_ | refine W_tail (a := .region _ _) ?_ | refine W_tail (a := .cond _ _ _) ?_ | refine W_tail (a := .ret) ?_ | refine W_tail (a := .exit _) ?_ | refine W_tail (a := .block _ _) ?_ | refine QB_normal ?_ | refine QB_exit ?_ | refine QB_ret ?_ | refine QB_out (by decide) ?_ | refine QL_next ?_ | refine QL_exit ?_ | refine QL_ret ?_ | refine QL_out (by decide) ?_ | (show Fin _ _ .ret _; exact Fin_ret (by first | (simp [c59]; done) | (simp [c59]; with_reducible rfl))) | (show Fin _ _ .normal _; exact Fin_end (by first | (simp [c59]; done) | (simp [c59]; with_reducible rfl))))
    case v1 => simp
  by_cases h2 : k = 2
  · subst h2
    rw [show fieldsB (hasJ 2) (hasT 2) (hasE 2) = 1 by decide]
    refine FV_W T59 (r := ?r2) ?h2 ?v2
    case h2 =>
      simp only [c59, c59_b, Lift.start]
      repeat (first | refine W_assoc ?_ | (show W _ (.seq (.region _ _) _) _ _; refine W_reg (by simp; with_reducible rfl) ?_) | (show R _ _ _ (_ :: _) _ _ _ _; refine R_op (by simp (maxSteps := 2000000); with_reducible rfl) ?_) | (show R _ _ _ [] _ _ _ _; refine R_nil (by simp; with_reducible rfl) ?_) | (show W _ (.seq (.cond _ _ _) _) _ _; first | refine W_ct (by first | (simp; done) | fail) ?_ | refine W_cf (by first | (simp; done) | fail) ?_) | refine W_skip ?_ | refine W_bl (c := .seq _ _) ?_ | refine W_bl (c := .region _ _) ?_ | refine W_bl (c := .cond _ _ _) ?_ | refine W_bl (c := .block _ _) ?_ | refine W_rt ?_ | refine W_ex ?_ | refine W_end ?_ | refine W_tail (a := .region _ _) ?_ | refine W_tail (a := .cond _ _ _) ?_ | refine W_tail (a := .ret) ?_ | refine W_tail (a := .exit _) ?_ | refine W_tail (a := .block _ _) ?_ | refine QB_normal ?_ | refine QB_exit ?_ | refine QB_ret ?_ | refine QB_out (by decide) ?_ | refine QL_next ?_ | refine QL_exit ?_ | refine QL_ret ?_ | refine QL_out (by decide) ?_ | (show Fin _ _ .ret _; exact Fin_ret (by first | (simp [c59]; done) | (simp [c59]; with_reducible rfl))) | (show Fin _ _ .normal _; exact Fin_end (by first | (simp [c59]; done) | (simp [c59]; with_reducible rfl))))
    case v2 => simp
  by_cases h3 : k = 3
  · subst h3
    rw [show fieldsB (hasJ 3) (hasT 3) (hasE 3) = 1 by decide]
    refine FV_W T59 (r := ?r3) ?h3 ?v3
    case h3 =>
      simp only [c59, c59_b, Lift.start]
      repeat (first | refine W_assoc ?_ | (show W _ (.seq (.region _ _) _) _ _; refine W_reg (by simp; with_reducible rfl) ?_) | (show R _ _ _ (_ :: _) _ _ _ _; refine R_op (by simp (maxSteps := 2000000); with_reducible rfl) ?_) | (show R _ _ _ [] _ _ _ _; refine R_nil (by simp; with_reducible rfl) ?_) | (show W _ (.seq (.cond _ _ _) _) _ _; first | refine W_ct (by first | (simp; done) | fail) ?_ | refine W_cf (by first | (simp; done) | fail) ?_) | refine W_skip ?_ | refine W_bl (c := .seq _ _) ?_ | refine W_bl (c := .region _ _) ?_ | refine W_bl (c := .cond _ _ _) ?_ | refine W_bl (c := .block _ _) ?_ | refine W_rt ?_ | refine W_ex ?_ | refine W_end ?_ | refine W_tail (a := .region _ _) ?_ | refine W_tail (a := .cond _ _ _) ?_ | refine W_tail (a := .ret) ?_ | refine W_tail (a := .exit _) ?_ | refine W_tail (a := .block _ _) ?_ | refine QB_normal ?_ | refine QB_exit ?_ | refine QB_ret ?_ | refine QB_out (by decide) ?_ | refine QL_next ?_ | refine QL_exit ?_ | refine QL_ret ?_ | refine QL_out (by decide) ?_ | (show Fin _ _ .ret _; exact Fin_ret (by first | (simp [c59]; done) | (simp [c59]; with_reducible rfl))) | (show Fin _ _ .normal _; exact Fin_end (by first | (simp [c59]; done) | (simp [c59]; with_reducible rfl))))
    case v3 => simp
  by_cases h4 : k = 4
  · subst h4
    rw [show fieldsB (hasJ 4) (hasT 4) (hasE 4) = 7 by decide]
    refine FV_W T59 (r := ?r4) ?h4 ?v4
    case h4 =>
      simp only [c59, c59_b, Lift.start]
      repeat (first | refine W_assoc ?_ | (show W _ (.seq (.region _ _) _) _ _; refine W_reg (by simp; with_reducible rfl) ?_) | (show R _ _ _ (_ :: _) _ _ _ _; refine R_op (by simp (maxSteps := 2000000); with_reducible rfl) ?_) | (show R _ _ _ [] _ _ _ _; refine R_nil (by simp; with_reducible rfl) ?_) | (show W _ (.seq (.cond _ _ _) _) _ _; first | refine W_ct (by first | (simp; done) | fail) ?_ | refine W_cf (by first | (simp; done) | fail) ?_) | refine W_skip ?_ | refine W_bl (c := .seq _ _) ?_ | refine W_bl (c := .region _ _) ?_ | refine W_bl (c := .cond _ _ _) ?_ | refine W_bl (c := .block _ _) ?_ | refine W_rt ?_ | refine W_ex ?_ | refine W_end ?_ | refine W_tail (a := .region _ _) ?_ | refine W_tail (a := .cond _ _ _) ?_ | refine W_tail (a := .ret) ?_ | refine W_tail (a := .exit _) ?_ | refine W_tail (a := .block _ _) ?_ | refine QB_normal ?_ | refine QB_exit ?_ | refine QB_ret ?_ | refine QB_out (by decide) ?_ | refine QL_next ?_ | refine QL_exit ?_ | refine QL_ret ?_ | refine QL_out (by decide) ?_ | (show Fin _ _ .ret _; exact Fin_ret (by first | (simp [c59]; done) | (simp [c59]; with_reducible rfl))) | (show Fin _ _ .normal _; exact Fin_end (by first | (simp [c59]; done) | (simp [c59]; with_reducible rfl))))
    case v4 => simp
  by_cases h5 : k = 5
  · subst h5
    rw [show fieldsB (hasJ 5) (hasT 5) (hasE 5) = 1 by decide]
    refine FV_W T59 (r := ?r5) ?h5 ?v5
    case h5 =>
      simp only [c59, c59_b, Lift.start]
      repeat (first | refine W_assoc ?_ | (show W _ (.seq (.region _ _) _) _ _; refine W_reg (by simp; with_reducible rfl) ?_) | (show R _ _ _ (_ :: _) _ _ _ _; refine R_op (by simp (maxSteps := 2000000); with_reducible rfl) ?_) | (show R _ _ _ [] _ _ _ _; refine R_nil (by simp; with_reducible rfl) ?_) | (show W _ (.seq (.cond _ _ _) _) _ _; first | refine W_ct (by first | (simp; done) | fail) ?_ | refine W_cf (by first | (simp; done) | fail) ?_) | refine W_skip ?_ | refine W_bl (c := .seq _ _) ?_ | refine W_bl (c := .region _ _) ?_ | refine W_bl (c := .cond _ _ _) ?_ | refine W_bl (c := .block _ _) ?_ | refine W_rt ?_ | refine W_ex ?_ | refine W_end ?_ | refine W_tail (a := .region _ _) ?_ | refine W_tail (a := .cond _ _ _) ?_ | refine W_tail (a := .ret) ?_ | refine W_tail (a := .exit _) ?_ | refine W_tail (a := .block _ _) ?_ | refine QB_normal ?_ | refine QB_exit ?_ | refine QB_ret ?_ | refine QB_out (by decide) ?_ | refine QL_next ?_ | refine QL_exit ?_ | refine QL_ret ?_ | refine QL_out (by decide) ?_ | (show Fin _ _ .ret _; exact Fin_ret (by first | (simp [c59]; done) | (simp [c59]; with_reducible rfl))) | (show Fin _ _ .normal _; exact Fin_end (by first | (simp [c59]; done) | (simp [c59]; with_reducible rfl))))
    case v5 => simp
  by_cases h6 : k = 6
  · subst h6
    rw [show fieldsB (hasJ 6) (hasT 6) (hasE 6) = 1 by decide]
    refine FV_W T59 (r := ?r6) ?h6 ?v6
    case h6 =>
      simp only [c59, c59_b, Lift.start]
      repeat (first | refine W_assoc ?_ | (show W _ (.seq (.region _ _) _) _ _; refine W_reg (by simp; with_reducible rfl) ?_) | (show R _ _ _ (_ :: _) _ _ _ _; refine R_op (by simp (maxSteps := 2000000); with_reducible rfl) ?_) | (show R _ _ _ [] _ _ _ _; refine R_nil (by simp; with_reducible rfl) ?_) | (show W _ (.seq (.cond _ _ _) _) _ _; first | refine W_ct (by first | (simp; done) | fail) ?_ | refine W_cf (by first | (simp; done) | fail) ?_) | refine W_skip ?_ | refine W_bl (c := .seq _ _) ?_ | refine W_bl (c := .region _ _) ?_ | refine W_bl (c := .cond _ _ _) ?_ | refine W_bl (c := .block _ _) ?_ | refine W_rt ?_ | refine W_ex ?_ | refine W_end ?_ | refine W_tail (a := .region _ _) ?_ | refine W_tail (a := .cond _ _ _) ?_ | refine W_tail (a := .ret) ?_ | refine W_tail (a := .exit _) ?_ | refine W_tail (a := .block _ _) ?_ | refine QB_normal ?_ | refine QB_exit ?_ | refine QB_ret ?_ | refine QB_out (by decide) ?_ | refine QL_next ?_ | refine QL_exit ?_ | refine QL_ret ?_ | refine QL_out (by decide) ?_ | (show Fin _ _ .ret _; exact Fin_ret (by first | (simp [c59]; done) | (simp [c59]; with_reducible rfl))) | (show Fin _ _ .normal _; exact Fin_end (by first | (simp [c59]; done) | (simp [c59]; with_reducible rfl))))
    case v6 => simp
  by_cases h7 : k = 7
  · subst h7
    rw [show fieldsB (hasJ 7) (hasT 7) (hasE 7) = 3 by decide]
    refine FV_W T59 (r := ?r7) ?h7 ?v7
    case h7 =>
      simp only [c59, c59_b, Lift.start]
      repeat (first | refine W_assoc ?_ | (show W _ (.seq (.region _ _) _) _ _; refine W_reg (by simp; with_reducible rfl) ?_) | (show R _ _ _ (_ :: _) _ _ _ _; refine R_op (by simp (maxSteps := 2000000); with_reducible rfl) ?_) | (show R _ _ _ [] _ _ _ _; refine R_nil (by simp; with_reducible rfl) ?_) | (show W _ (.seq (.cond _ _ _) _) _ _; first | refine W_ct (by first | (simp; done) | fail) ?_ | refine W_cf (by first | (simp; done) | fail) ?_) | refine W_skip ?_ | refine W_bl (c := .seq _ _) ?_ | refine W_bl (c := .region _ _) ?_ | refine W_bl (c := .cond _ _ _) ?_ | refine W_bl (c := .block _ _) ?_ | refine W_rt ?_ | refine W_ex ?_ | refine W_end ?_ | refine W_tail (a := .region _ _) ?_ | refine W_tail (a := .cond _ _ _) ?_ | refine W_tail (a := .ret) ?_ | refine W_tail (a := .exit _) ?_ | refine W_tail (a := .block _ _) ?_ | refine QB_normal ?_ | refine QB_exit ?_ | refine QB_ret ?_ | refine QB_out (by decide) ?_ | refine QL_next ?_ | refine QL_exit ?_ | refine QL_ret ?_ | refine QL_out (by decide) ?_ | (show Fin _ _ .ret _; exact Fin_ret (by first | (simp [c59]; done) | (simp [c59]; with_reducible rfl))) | (show Fin _ _ .normal _; exact Fin_end (by first | (simp [c59]; done) | (simp [c59]; with_reducible rfl))))
    case v7 => simp
  by_cases h8 : k = 8
  · subst h8
    rw [show fieldsB (hasJ 8) (hasT 8) (hasE 8) = 3 by decide]
    refine FV_W T59 (r := ?r8) ?h8 ?v8
    case h8 =>
      simp only [c59, c59_b, Lift.start]
      repeat (first | refine W_assoc ?_ | (show W _ (.seq (.region _ _) _) _ _; refine W_reg (by simp; with_reducible rfl) ?_) | (show R _ _ _ (_ :: _) _ _ _ _; refine R_op (by simp (maxSteps := 2000000); with_reducible rfl) ?_) | (show R _ _ _ [] _ _ _ _; refine R_nil (by simp; with_reducible rfl) ?_) | (show W _ (.seq (.cond _ _ _) _) _ _; first | refine W_ct (by first | (simp; done) | fail) ?_ | refine W_cf (by first | (simp; done) | fail) ?_) | refine W_skip ?_ | refine W_bl (c := .seq _ _) ?_ | refine W_bl (c := .region _ _) ?_ | refine W_bl (c := .cond _ _ _) ?_ | refine W_bl (c := .block _ _) ?_ | refine W_rt ?_ | refine W_ex ?_ | refine W_end ?_ | refine W_tail (a := .region _ _) ?_ | refine W_tail (a := .cond _ _ _) ?_ | refine W_tail (a := .ret) ?_ | refine W_tail (a := .exit _) ?_ | refine W_tail (a := .block _ _) ?_ | refine QB_normal ?_ | refine QB_exit ?_ | refine QB_ret ?_ | refine QB_out (by decide) ?_ | refine QL_next ?_ | refine QL_exit ?_ | refine QL_ret ?_ | refine QL_out (by decide) ?_ | (show Fin _ _ .ret _; exact Fin_ret (by first | (simp [c59]; done) | (simp [c59]; with_reducible rfl))) | (show Fin _ _ .normal _; exact Fin_end (by first | (simp [c59]; done) | (simp [c59]; with_reducible rfl))))
    case v8 => simp
  by_cases h9 : k = 9
  · subst h9
    rw [show fieldsB (hasJ 9) (hasT 9) (hasE 9) = 3 by decide]
    refine FV_W T59 (r := ?r9) ?h9 ?v9
    case h9 =>
      simp only [c59, c59_b, Lift.start]
      repeat (first | refine W_assoc ?_ | (show W _ (.seq (.region _ _) _) _ _; refine W_reg (by simp; with_reducible rfl) ?_) | (show R _ _ _ (_ :: _) _ _ _ _; refine R_op (by simp (maxSteps := 2000000); with_reducible rfl) ?_) | (show R _ _ _ [] _ _ _ _; refine R_nil (by simp; with_reducible rfl) ?_) | (show W _ (.seq (.cond _ _ _) _) _ _; first | refine W_ct (by first | (simp; done) | fail) ?_ | refine W_cf (by first | (simp; done) | fail) ?_) | refine W_skip ?_ | refine W_bl (c := .seq _ _) ?_ | refine W_bl (c := .region _ _) ?_ | refine W_bl (c := .cond _ _ _) ?_ | refine W_bl (c := .block _ _) ?_ | refine W_rt ?_ | refine W_ex ?_ | refine W_end ?_ | refine W_tail (a := .region _ _) ?_ | refine W_tail (a := .cond _ _ _) ?_ | refine W_tail (a := .ret) ?_ | refine W_tail (a := .exit _) ?_ | refine W_tail (a := .block _ _) ?_ | refine QB_normal ?_ | refine QB_exit ?_ | refine QB_ret ?_ | refine QB_out (by decide) ?_ | refine QL_next ?_ | refine QL_exit ?_ | refine QL_ret ?_ | refine QL_out (by decide) ?_ | (show Fin _ _ .ret _; exact Fin_ret (by first | (simp [c59]; done) | (simp [c59]; with_reducible rfl))) | (show Fin _ _ .normal _; exact Fin_end (by first | (simp [c59]; done) | (simp [c59]; with_reducible rfl))))
    case v9 => simp
  by_cases h10 : k = 10
  · subst h10
    rw [show fieldsB (hasJ 10) (hasT 10) (hasE 10) = 5 by decide]
    refine FV_W T59 (r := ?r10) ?h10 ?v10
    case h10 =>
      simp only [c59, c59_b, Lift.start]
      repeat (first | refine W_assoc ?_ | (show W _ (.seq (.region _ _) _) _ _; refine W_reg (by simp; with_reducible rfl) ?_) | (show R _ _ _ (_ :: _) _ _ _ _; refine R_op (by simp (maxSteps := 2000000); with_reducible rfl) ?_) | (show R _ _ _ [] _ _ _ _; refine R_nil (by simp; with_reducible rfl) ?_) | (show W _ (.seq (.cond _ _ _) _) _ _; first | refine W_ct (by first | (simp; done) | fail) ?_ | refine W_cf (by first | (simp; done) | fail) ?_) | refine W_skip ?_ | refine W_bl (c := .seq _ _) ?_ | refine W_bl (c := .region _ _) ?_ | refine W_bl (c := .cond _ _ _) ?_ | refine W_bl (c := .block _ _) ?_ | refine W_rt ?_ | refine W_ex ?_ | refine W_end ?_ | refine W_tail (a := .region _ _) ?_ | refine W_tail (a := .cond _ _ _) ?_ | refine W_tail (a := .ret) ?_ | refine W_tail (a := .exit _) ?_ | refine W_tail (a := .block _ _) ?_ | refine QB_normal ?_ | refine QB_exit ?_ | refine QB_ret ?_ | refine QB_out (by decide) ?_ | refine QL_next ?_ | refine QL_exit ?_ | refine QL_ret ?_ | refine QL_out (by decide) ?_ | (show Fin _ _ .ret _; exact Fin_ret (by first | (simp [c59]; done) | (simp [c59]; with_reducible rfl))) | (show Fin _ _ .normal _; exact Fin_end (by first | (simp [c59]; done) | (simp [c59]; with_reducible rfl))))
    case v10 => simp
  have e1 : hasJ k = false := by unfold hasJ; simp; omega
  have e2 : hasT k = false := by unfold hasT; simp; omega
  have e3 : hasE k = false := by unfold hasE; simp; omega
  rw [e1, e2, e3, show fieldsB false false false = 0 by decide]
  refine FV_W T59 (r := ?r11) ?h11 ?v11
  case h11 =>
    simp only [c59, c59_b, Lift.start]
    repeat (first | refine W_assoc ?_ | (show W _ (.seq (.region _ _) _) _ _; refine W_reg (by simp; with_reducible rfl) ?_) | (show R _ _ _ (_ :: _) _ _ _ _; refine R_op (by simp (maxSteps := 2000000) [h1, h2, h3, h4, h5, h6, h7, h8, h9, h10]; with_reducible rfl) ?_) | (show R _ _ _ [] _ _ _ _; refine R_nil (by simp; with_reducible rfl) ?_) | (show W _ (.seq (.cond _ _ _) _) _ _; first | refine W_ct (by first | (simp [h1, h2, h3, h4, h5, h6, h7, h8, h9, h10]; done) | fail) ?_ | refine W_cf (by first | (simp [h1, h2, h3, h4, h5, h6, h7, h8, h9, h10]; done) | fail) ?_) | refine W_skip ?_ | refine W_bl (c := .seq _ _) ?_ | refine W_bl (c := .region _ _) ?_ | refine W_bl (c := .cond _ _ _) ?_ | refine W_bl (c := .block _ _) ?_ | refine W_rt ?_ | refine W_ex ?_ | refine W_end ?_ | refine W_tail (a := .region _ _) ?_ | refine W_tail (a := .cond _ _ _) ?_ | refine W_tail (a := .ret) ?_ | refine W_tail (a := .exit _) ?_ | refine W_tail (a := .block _ _) ?_ | refine QB_normal ?_ | refine QB_exit ?_ | refine QB_ret ?_ | refine QB_out (by decide) ?_ | refine QL_next ?_ | refine QL_exit ?_ | refine QL_ret ?_ | refine QL_out (by decide) ?_ | (show Fin _ _ .ret _; exact Fin_ret (by first | (simp [c59]; done) | (simp [c59]; with_reducible rfl))) | (show Fin _ _ .normal _; exact Fin_end (by first | (simp [c59]; done) | (simp [c59]; with_reducible rfl))))
  case v11 => simp

theorem V_msgin (h : Bool) (n l m : Int) : FV (F T) 61 [.bool h, .int .i64 n, .int .i64 l, .int .i64 m] = some (.bool (inF h n l m)) := by
  unfold inF
  cases h with
  | false =>
    refine FV_W T61 (r := ?r1) ?h1 ?v1
    case h1 =>
      simp only [c61, c61_b, Lift.start]
      repeat (first | refine W_assoc ?_ | (show W _ (.seq (.region _ _) _) _ _; refine W_reg (by simp; with_reducible rfl) ?_) | (show R _ _ _ (_ :: _) _ _ _ _; refine R_op (by simp (maxSteps := 2000000); with_reducible rfl) ?_) | (show R _ _ _ [] _ _ _ _; refine R_nil (by simp; with_reducible rfl) ?_) | (show W _ (.seq (.cond _ _ _) _) _ _; first | refine W_ct (by first | (simp; done) | fail) ?_ | refine W_cf (by first | (simp; done) | fail) ?_) | refine W_skip ?_ | refine W_bl (c := .seq _ _) ?_ | refine W_bl (c := .region _ _) ?_ | refine W_bl (c := .cond _ _ _) ?_ | refine W_bl (c := .block _ _) ?_ | refine W_rt ?_ | refine W_ex ?_ | refine W_end ?_ | refine W_tail (a := .region _ _) ?_ | refine W_tail (a := .cond _ _ _) ?_ | refine W_tail (a := .ret) ?_ | refine W_tail (a := .exit _) ?_ | refine W_tail (a := .block _ _) ?_ | refine QB_normal ?_ | refine QB_exit ?_ | refine QB_ret ?_ | refine QB_out (by decide) ?_ | refine QL_next ?_ | refine QL_exit ?_ | refine QL_ret ?_ | refine QL_out (by decide) ?_ | (show Fin _ _ .ret _; exact Fin_ret (by first | (simp [c61]; done) | (simp [c61]; with_reducible rfl))) | (show Fin _ _ .normal _; exact Fin_end (by first | (simp [c61]; done) | (simp [c61]; with_reducible rfl))))
    case v1 => simp
  | true =>
    by_cases h1 : l ≤ n
    · refine FV_W T61 (r := ?r2) ?h2 ?v2
      case h2 =>
        simp only [c61, c61_b, Lift.start]
        repeat (first | refine W_assoc ?_ | (show W _ (.seq (.region _ _) _) _ _; refine W_reg (by simp; with_reducible rfl) ?_) | (show R _ _ _ (_ :: _) _ _ _ _; refine R_op (by simp (maxSteps := 2000000) [h1]; with_reducible rfl) ?_) | (show R _ _ _ [] _ _ _ _; refine R_nil (by simp; with_reducible rfl) ?_) | (show W _ (.seq (.cond _ _ _) _) _ _; first | refine W_ct (by first | (simp [h1]; done) | fail) ?_ | refine W_cf (by first | (simp [h1]; done) | fail) ?_) | refine W_skip ?_ | refine W_bl (c := .seq _ _) ?_ | refine W_bl (c := .region _ _) ?_ | refine W_bl (c := .cond _ _ _) ?_ | refine W_bl (c := .block _ _) ?_ | refine W_rt ?_ | refine W_ex ?_ | refine W_end ?_ | refine W_tail (a := .region _ _) ?_ | refine W_tail (a := .cond _ _ _) ?_ | refine W_tail (a := .ret) ?_ | refine W_tail (a := .exit _) ?_ | refine W_tail (a := .block _ _) ?_ | refine QB_normal ?_ | refine QB_exit ?_ | refine QB_ret ?_ | refine QB_out (by decide) ?_ | refine QL_next ?_ | refine QL_exit ?_ | refine QL_ret ?_ | refine QL_out (by decide) ?_ | (show Fin _ _ .ret _; exact Fin_ret (by first | (simp [c61]; done) | (simp [c61]; with_reducible rfl))) | (show Fin _ _ .normal _; exact Fin_end (by first | (simp [c61]; done) | (simp [c61]; with_reducible rfl))))
      case v2 => simp [h1]
    · refine FV_W T61 (r := ?r3) ?h3 ?v3
      case h3 =>
        simp only [c61, c61_b, Lift.start]
        repeat (first | refine W_assoc ?_ | (show W _ (.seq (.region _ _) _) _ _; refine W_reg (by simp; with_reducible rfl) ?_) | (show R _ _ _ (_ :: _) _ _ _ _; refine R_op (by simp (maxSteps := 2000000) [h1]; with_reducible rfl) ?_) | (show R _ _ _ [] _ _ _ _; refine R_nil (by simp; with_reducible rfl) ?_) | (show W _ (.seq (.cond _ _ _) _) _ _; first | refine W_ct (by first | (simp [h1]; done) | fail) ?_ | refine W_cf (by first | (simp [h1]; done) | fail) ?_) | refine W_skip ?_ | refine W_bl (c := .seq _ _) ?_ | refine W_bl (c := .region _ _) ?_ | refine W_bl (c := .cond _ _ _) ?_ | refine W_bl (c := .block _ _) ?_ | refine W_rt ?_ | refine W_ex ?_ | refine W_end ?_ | refine W_tail (a := .region _ _) ?_ | refine W_tail (a := .cond _ _ _) ?_ | refine W_tail (a := .ret) ?_ | refine W_tail (a := .exit _) ?_ | refine W_tail (a := .block _ _) ?_ | refine QB_normal ?_ | refine QB_exit ?_ | refine QB_ret ?_ | refine QB_out (by decide) ?_ | refine QL_next ?_ | refine QL_exit ?_ | refine QL_ret ?_ | refine QL_out (by decide) ?_ | (show Fin _ _ .ret _; exact Fin_ret (by first | (simp [c61]; done) | (simp [c61]; with_reducible rfl))) | (show Fin _ _ .normal _; exact Fin_end (by first | (simp [c61]; done) | (simp [c61]; with_reducible rfl))))
      case v3 => simp [h1]

@[simp] def m4 (m : M4) : List AV := [.int .i64 m.1, .int .i64 m.2.1, .int .i64 m.2.2.1, .int .i64 m.2.2.2]

theorem andB (j t e : Bool) : ∃ f x1 x2 x4 : Int, fieldsB j t e = f ∧ IntKind.i64.wrap ↑((f % 2 ^ IntKind.i64.bits).toNat &&& 1 % 2 ^ IntKind.i64.bits) = x1 ∧ IntKind.i64.wrap ↑((f % 2 ^ IntKind.i64.bits).toNat &&& 2 % 2 ^ IntKind.i64.bits) = x2 ∧ IntKind.i64.wrap ↑((f % 2 ^ IntKind.i64.bits).toNat &&& 4 % 2 ^ IntKind.i64.bits) = x4 ∧
    decide (x1 = 0) = !j ∧ decide (x2 = 0) = !t ∧ decide (x4 = 0) = !e := by
  refine ⟨_, _, _, _, rfl, rfl, rfl, rfl, ?_, ?_, ?_⟩ <;> cases j <;> cases t <;> cases e <;> decide

theorem V_Check (m : M4) : FV (F T) 29 [.agg (m4 m)] = some (.bool (chkM m)) := by
  obtain ⟨k, j, t, e⟩ := m
  have v1 := V_fields k
  have i1 := V_msgin (hasJ k) j 1 72057594037927935
  have i2 := V_msgin (hasT k) t 0 15
  have i3 := V_msgin (hasE k) e 1 9
  obtain ⟨f, x1, x2, x4, hf, g1, g2, g4, q1, q2, q4⟩ := andB (hasJ k) (hasT k) (hasE k)
  rw [hf] at v1
  unfold chkM
  simp only []
  generalize hasJ k = hj at *
  generalize hasT k = ht at *
  generalize hasE k = he at *
  generalize inF hj j 1 72057594037927935 = b1 at *
  generalize inF ht t 0 15 = b2 at *
  generalize inF he e 1 9 = b3 at *
  have key : ∀ b, F T 29 [.agg (m4 (k, j, t, e))] [] = some (.bool b, []) → FV (F T) 29 [.agg (m4 (k, j, t, e))] = some (.bool b) := fun b h => by simpa using FV_of h
  refine key _ (F_W T29 ?_)
  simp only [c29, c29_b, Lift.start]
  by_cases h1 : 1 ≤ k
  · by_cases h2 : k ≤ 11
    · cases b1 <;> cases b2
      all_goals
        repeat (first | refine W_assoc ?_ | (show W _ (.seq (.region _ _) _) _ _; refine W_reg (by simp; with_reducible rfl) ?_) | (show R _ _ _ (_ :: _) _ _ _ _; refine R_op (by simp (maxSteps := 2000000) [h1, h2, v1, g1, g2, g4, q1, q2, q4, i1, i2, i3]; with_reducible rfl) ?_) | (show R _ _ _ [] _ _ _ _; refine R_nil (by simp; with_reducible rfl) ?_) | (show W _ (.seq (.cond _ _ _) _) _ _; first | refine W_ct (by first | (simp [h1, h2, v1, g1, g2, g4, q1, q2, q4, i1, i2, i3]; done) | fail) ?_ | refine W_cf (by first | (simp [h1, h2, v1, g1, g2, g4, q1, q2, q4, i1, i2, i3]; done) | fail) ?_) | refine W_skip ?_ | refine W_bl (c := .seq _ _) ?_ | refine W_bl (c := .region _ _) ?_ | refine W_bl (c := .cond _ _ _) ?_ | refine W_bl (c := .block _ _) ?_ | refine W_rt ?_ | refine W_ex ?_ | refine W_end ?_ | refine W_tail (a := .region _ _) ?_ | refine W_tail (a := .cond _ _ _) ?_ | refine W_tail (a := .ret) ?_ | refine W_tail (a := .exit _) ?_ | refine W_tail (a := .block _ _) ?_ | refine QB_normal ?_ | refine QB_exit ?_ | refine QB_ret ?_ | refine QB_out (by decide) ?_ | refine QL_next ?_ | refine QL_exit ?_ | refine QL_ret ?_ | refine QL_out (by decide) ?_ | (show Fin _ _ .ret _; exact Fin_ret (by first | (simp [c29, h1, h2]; done) | (simp [c29, h1, h2]; with_reducible rfl))) | (show Fin _ _ .normal _; exact Fin_end (by first | (simp [c29, h1, h2]; done) | (simp [c29, h1, h2]; with_reducible rfl))))
    · repeat (first | refine W_assoc ?_ | (show W _ (.seq (.region _ _) _) _ _; refine W_reg (by simp; with_reducible rfl) ?_) | (show R _ _ _ (_ :: _) _ _ _ _; refine R_op (by simp (maxSteps := 2000000) [h1, h2, v1, g1, g2, g4, q1, q2, q4, i1, i2, i3]; with_reducible rfl) ?_) | (show R _ _ _ [] _ _ _ _; refine R_nil (by simp; with_reducible rfl) ?_) | (show W _ (.seq (.cond _ _ _) _) _ _; first | refine W_ct (by first | (simp [h1, h2, v1, g1, g2, g4, q1, q2, q4, i1, i2, i3]; done) | fail) ?_ | refine W_cf (by first | (simp [h1, h2, v1, g1, g2, g4, q1, q2, q4, i1, i2, i3]; done) | fail) ?_) | refine W_skip ?_ | refine W_bl (c := .seq _ _) ?_ | refine W_bl (c := .region _ _) ?_ | refine W_bl (c := .cond _ _ _) ?_ | refine W_bl (c := .block _ _) ?_ | refine W_rt ?_ | refine W_ex ?_ | refine W_end ?_ | refine W_tail (a := .region _ _) ?_ | refine W_tail (a := .cond _ _ _) ?_ | refine W_tail (a := .ret) ?_ | refine W_tail (a := .exit _) ?_ | refine W_tail (a := .block _ _) ?_ | refine QB_normal ?_ | refine QB_exit ?_ | refine QB_ret ?_ | refine QB_out (by decide) ?_ | refine QL_next ?_ | refine QL_exit ?_ | refine QL_ret ?_ | refine QL_out (by decide) ?_ | (show Fin _ _ .ret _; exact Fin_ret (by first | (simp [c29, h1, h2]; done) | (simp [c29, h1, h2]; with_reducible rfl))) | (show Fin _ _ .normal _; exact Fin_end (by first | (simp [c29, h1, h2]; done) | (simp [c29, h1, h2]; with_reducible rfl))))
  · repeat (first | refine W_assoc ?_ | (show W _ (.seq (.region _ _) _) _ _; refine W_reg (by simp; with_reducible rfl) ?_) | (show R _ _ _ (_ :: _) _ _ _ _; refine R_op (by simp (maxSteps := 2000000) [h1, v1, g1, g2, g4, q1, q2, q4, i1, i2, i3]; with_reducible rfl) ?_) | (show R _ _ _ [] _ _ _ _; refine R_nil (by simp; with_reducible rfl) ?_) | (show W _ (.seq (.cond _ _ _) _) _ _; first | refine W_ct (by first | (simp [h1, v1, g1, g2, g4, q1, q2, q4, i1, i2, i3]; done) | fail) ?_ | refine W_cf (by first | (simp [h1, v1, g1, g2, g4, q1, q2, q4, i1, i2, i3]; done) | fail) ?_) | refine W_skip ?_ | refine W_bl (c := .seq _ _) ?_ | refine W_bl (c := .region _ _) ?_ | refine W_bl (c := .cond _ _ _) ?_ | refine W_bl (c := .block _ _) ?_ | refine W_rt ?_ | refine W_ex ?_ | refine W_end ?_ | refine W_tail (a := .region _ _) ?_ | refine W_tail (a := .cond _ _ _) ?_ | refine W_tail (a := .ret) ?_ | refine W_tail (a := .exit _) ?_ | refine W_tail (a := .block _ _) ?_ | refine QB_normal ?_ | refine QB_exit ?_ | refine QB_ret ?_ | refine QB_out (by decide) ?_ | refine QL_next ?_ | refine QL_exit ?_ | refine QL_ret ?_ | refine QL_out (by decide) ?_ | (show Fin _ _ .ret _; exact Fin_ret (by first | (simp [c29, h1]; done) | (simp [c29, h1]; with_reducible rfl))) | (show Fin _ _ .normal _; exact Fin_end (by first | (simp [c29, h1]; done) | (simp [c29, h1]; with_reducible rfl))))

theorem V_Bytes22 (m : M4) (h : chkM m = true) : FV (F T) 30 [.agg (m4 m)] = some (.str (bs (bytesM m))) := by
  have vc := V_Check m
  rw [h] at vc
  obtain ⟨k, j, t, e⟩ := m
  have v1 := V_fields k
  obtain ⟨f, x1, x2, x4, hf, g1, g2, g4, q1, q2, q4⟩ := andB (hasJ k) (hasT k) (hasE k)
  rw [hf] at v1
  simp only [chkM, Bool.and_eq_true, decide_eq_true_eq] at h
  obtain ⟨h1, h2, h3, h4, h5⟩ := h
  have cl : ∀ n : Int, 0 ≤ n → n ≤ 72057594037927935 → clampN n = n.toNat := fun n a b => by simp only [clampN]; omega
  have n1 := F_Num 1 false [] k (.inl rfl) (by simp)
  rw [cl k (by omega) (by omega)] at n1
  have n1l := numB_len k.toNat (by omega)
  have hb : bytesM (k, j, t, e) = numB k.toNat ++ (fb (hasJ k) j ++ (fb (hasT k) t ++ fb (hasE k) e)) := rfl
  rw [hb]
  simp only [List.nil_append] at n1
  generalize numB k.toNat = r1 at *
  have n2 : hasJ k = true → F T 55 [.ro 1 (enc (eInt .u8) r1) false, .int .i64 j] [] = some (.own 0 0 (r1 ++ fb true j).length, [⟨5, 1, false, enc (eInt .u8) (r1 ++ fb true j), 0⟩]) ∧ (fb true j).length ≤ 8 := by
    intro hq
    rw [hq] at h3
    simp [inF] at h3
    have := F_Num 1 false r1 j (.inl rfl) (by omega)
    rw [cl j (by omega) h3.2] at this
    exact ⟨this, fb_len _ _ (by omega)⟩
  have n3 : hasT k = true → ∀ r : List Int, r.length ≤ 100 → F T 55 [.ro 1 (enc (eInt .u8) r) false, .int .i64 t] [] = some (.own 0 0 (r ++ fb true t).length, [⟨5, 1, false, enc (eInt .u8) (r ++ fb true t), 0⟩]) ∧ (fb true t).length ≤ 8 := by
    intro hq r hr
    rw [hq] at h4
    simp [inF] at h4
    have := F_Num 1 false r t (.inl rfl) (by omega)
    rw [cl t (by omega) (by omega)] at this
    exact ⟨this, fb_len _ _ (by omega)⟩
  have n4 : hasE k = true → ∀ r : List Int, r.length ≤ 100 → F T 55 [.ro 1 (enc (eInt .u8) r) false, .int .i64 e] [] = some (.own 0 0 (r ++ fb true e).length, [⟨5, 1, false, enc (eInt .u8) (r ++ fb true e), 0⟩]) := by
    intro hq r hr
    rw [hq] at h5
    simp [inF] at h5
    have := F_Num 1 false r e (.inl rfl) (by omega)
    rw [cl e (by omega) (by omega)] at this
    exact this
  generalize hasJ k = hj at *
  generalize hasT k = ht at *
  generalize hasE k = he at *
  have key : ∀ b, F T 30 [.agg (m4 (k, j, t, e))] [] = some (.str b, []) → FV (F T) 30 [.agg (m4 (k, j, t, e))] = some (.str b) := fun b h => by simpa using FV_of h
  refine key _ (F_W T30 ?_)
  simp only [c30, c30_b, Lift.start]
  simp only [enc_nil] at n1
  simp only [m4] at vc
  have f0 : ∀ n, fb false n = [] := fun n => rfl
  cases hj <;> cases ht <;> cases he
  · try simp only [f0, List.append_nil, List.nil_append]
    repeat (first | refine W_assoc ?_ | (show W _ (.seq (.region _ _) _) _ _; refine W_reg (by simp; with_reducible rfl) ?_) | (show R _ _ _ (_ :: _) _ _ _ _; refine R_op (by simp (maxSteps := 2000000) [vc, v1, g1, g2, g4, q1, q2, q4, n1]; with_reducible rfl) ?_) | (show R _ _ _ [] _ _ _ _; refine R_nil (by simp; with_reducible rfl) ?_) | (show W _ (.seq (.cond _ _ _) _) _ _; first | refine W_ct (by first | (simp [vc, v1, g1, g2, g4, q1, q2, q4, n1]; done) | fail) ?_ | refine W_cf (by first | (simp [vc, v1, g1, g2, g4, q1, q2, q4, n1]; done) | fail) ?_) | refine W_skip ?_ | refine W_bl (c := .seq _ _) ?_ | refine W_bl (c := .region _ _) ?_ | refine W_bl (c := .cond _ _ _) ?_ | refine W_bl (c := .block _ _) ?_ | refine W_rt ?_ | refine W_ex ?_ | refine W_end ?_ | refine W_tail (a := .region _ _) ?_ | refine W_tail (a := .cond _ _ _) ?_ | refine W_tail (a := .ret) ?_ | refine W_tail (a := .exit _) ?_ | refine W_tail (a := .block _ _) ?_ | refine QB_normal ?_ | refine QB_exit ?_ | refine QB_ret ?_ | refine QB_out (by decide) ?_ | refine QL_next ?_ | refine QL_exit ?_ | refine QL_ret ?_ | refine QL_out (by decide) ?_ | (show Fin _ _ .ret _; exact Fin_ret (by first | (simp [c30]; done) | (simp [c30]; with_reducible rfl))) | (show Fin _ _ .normal _; exact Fin_end (by first | (simp [c30]; done) | (simp [c30]; with_reducible rfl))))
  · try simp only [f0, List.append_nil, List.nil_append]
    try simp only [← List.append_assoc]
    have a2 := n4 rfl r1 (by omega)
    have z2 : (r1 ++ fb true e).length = r1.length + (fb true e).length := by simp
    generalize r1 ++ fb true e = r2 at *
    repeat (first | refine W_assoc ?_ | (show W _ (.seq (.region _ _) _) _ _; refine W_reg (by simp; with_reducible rfl) ?_) | (show R _ _ _ (_ :: _) _ _ _ _; refine R_op (by simp (maxSteps := 2000000) [vc, v1, g1, g2, g4, q1, q2, q4, n1, a2]; with_reducible rfl) ?_) | (show R _ _ _ [] _ _ _ _; refine R_nil (by simp; with_reducible rfl) ?_) | (show W _ (.seq (.cond _ _ _) _) _ _; first | refine W_ct (by first | (simp [vc, v1, g1, g2, g4, q1, q2, q4, n1, a2]; done) | fail) ?_ | refine W_cf (by first | (simp [vc, v1, g1, g2, g4, q1, q2, q4, n1, a2]; done) | fail) ?_) | refine W_skip ?_ | refine W_bl (c := .seq _ _) ?_ | refine W_bl (c := .region _ _) ?_ | refine W_bl (c := .cond _ _ _) ?_ | refine W_bl (c := .block _ _) ?_ | refine W_rt ?_ | refine W_ex ?_ | refine W_end ?_ | refine W_tail (a := .region _ _) ?_ | refine W_tail (a := .cond _ _ _) ?_ | refine W_tail (a := .ret) ?_ | refine W_tail (a := .exit _) ?_ | refine W_tail (a := .block _ _) ?_ | refine QB_normal ?_ | refine QB_exit ?_ | refine QB_ret ?_ | refine QB_out (by decide) ?_ | refine QL_next ?_ | refine QL_exit ?_ | refine QL_ret ?_ | refine QL_out (by decide) ?_ | (show Fin _ _ .ret _; exact Fin_ret (by first | (simp [c30]; done) | (simp [c30]; with_reducible rfl))) | (show Fin _ _ .normal _; exact Fin_end (by first | (simp [c30]; done) | (simp [c30]; with_reducible rfl))))
  · try simp only [f0, List.append_nil, List.nil_append]
    try simp only [← List.append_assoc]
    have a2 := n3 rfl r1 (by omega)
    obtain ⟨a2, l2⟩ := a2
    have z2 : (r1 ++ fb true t).length = r1.length + (fb true t).length := by simp
    generalize r1 ++ fb true t = r2 at *
    repeat (first | refine W_assoc ?_ | (show W _ (.seq (.region _ _) _) _ _; refine W_reg (by simp; with_reducible rfl) ?_) | (show R _ _ _ (_ :: _) _ _ _ _; refine R_op (by simp (maxSteps := 2000000) [vc, v1, g1, g2, g4, q1, q2, q4, n1, a2]; with_reducible rfl) ?_) | (show R _ _ _ [] _ _ _ _; refine R_nil (by simp; with_reducible rfl) ?_) | (show W _ (.seq (.cond _ _ _) _) _ _; first | refine W_ct (by first | (simp [vc, v1, g1, g2, g4, q1, q2, q4, n1, a2]; done) | fail) ?_ | refine W_cf (by first | (simp [vc, v1, g1, g2, g4, q1, q2, q4, n1, a2]; done) | fail) ?_) | refine W_skip ?_ | refine W_bl (c := .seq _ _) ?_ | refine W_bl (c := .region _ _) ?_ | refine W_bl (c := .cond _ _ _) ?_ | refine W_bl (c := .block _ _) ?_ | refine W_rt ?_ | refine W_ex ?_ | refine W_end ?_ | refine W_tail (a := .region _ _) ?_ | refine W_tail (a := .cond _ _ _) ?_ | refine W_tail (a := .ret) ?_ | refine W_tail (a := .exit _) ?_ | refine W_tail (a := .block _ _) ?_ | refine QB_normal ?_ | refine QB_exit ?_ | refine QB_ret ?_ | refine QB_out (by decide) ?_ | refine QL_next ?_ | refine QL_exit ?_ | refine QL_ret ?_ | refine QL_out (by decide) ?_ | (show Fin _ _ .ret _; exact Fin_ret (by first | (simp [c30]; done) | (simp [c30]; with_reducible rfl))) | (show Fin _ _ .normal _; exact Fin_end (by first | (simp [c30]; done) | (simp [c30]; with_reducible rfl))))
  · try simp only [f0, List.append_nil, List.nil_append]
    try simp only [← List.append_assoc]
    have a2 := n3 rfl r1 (by omega)
    obtain ⟨a2, l2⟩ := a2
    have z2 : (r1 ++ fb true t).length = r1.length + (fb true t).length := by simp
    generalize r1 ++ fb true t = r2 at *
    have a3 := n4 rfl r2 (by omega)
    have z3 : (r2 ++ fb true e).length = r2.length + (fb true e).length := by simp
    generalize r2 ++ fb true e = r3 at *
    repeat (first | refine W_assoc ?_ | (show W _ (.seq (.region _ _) _) _ _; refine W_reg (by simp; with_reducible rfl) ?_) | (show R _ _ _ (_ :: _) _ _ _ _; refine R_op (by simp (maxSteps := 2000000) [vc, v1, g1, g2, g4, q1, q2, q4, n1, a2, a3]; with_reducible rfl) ?_) | (show R _ _ _ [] _ _ _ _; refine R_nil (by simp; with_reducible rfl) ?_) | (show W _ (.seq (.cond _ _ _) _) _ _; first | refine W_ct (by first | (simp [vc, v1, g1, g2, g4, q1, q2, q4, n1, a2, a3]; done) | fail) ?_ | refine W_cf (by first | (simp [vc, v1, g1, g2, g4, q1, q2, q4, n1, a2, a3]; done) | fail) ?_) | refine W_skip ?_ | refine W_bl (c := .seq _ _) ?_ | refine W_bl (c := .region _ _) ?_ | refine W_bl (c := .cond _ _ _) ?_ | refine W_bl (c := .block _ _) ?_ | refine W_rt ?_ | refine W_ex ?_ | refine W_end ?_ | refine W_tail (a := .region _ _) ?_ | refine W_tail (a := .cond _ _ _) ?_ | refine W_tail (a := .ret) ?_ | refine W_tail (a := .exit _) ?_ | refine W_tail (a := .block _ _) ?_ | refine QB_normal ?_ | refine QB_exit ?_ | refine QB_ret ?_ | refine QB_out (by decide) ?_ | refine QL_next ?_ | refine QL_exit ?_ | refine QL_ret ?_ | refine QL_out (by decide) ?_ | (show Fin _ _ .ret _; exact Fin_ret (by first | (simp [c30]; done) | (simp [c30]; with_reducible rfl))) | (show Fin _ _ .normal _; exact Fin_end (by first | (simp [c30]; done) | (simp [c30]; with_reducible rfl))))
  · try simp only [f0, List.append_nil, List.nil_append]
    try simp only [← List.append_assoc]
    have a2 := n2 rfl
    obtain ⟨a2, l2⟩ := a2
    have z2 : (r1 ++ fb true j).length = r1.length + (fb true j).length := by simp
    generalize r1 ++ fb true j = r2 at *
    repeat (first | refine W_assoc ?_ | (show W _ (.seq (.region _ _) _) _ _; refine W_reg (by simp; with_reducible rfl) ?_) | (show R _ _ _ (_ :: _) _ _ _ _; refine R_op (by simp (maxSteps := 2000000) [vc, v1, g1, g2, g4, q1, q2, q4, n1, a2]; with_reducible rfl) ?_) | (show R _ _ _ [] _ _ _ _; refine R_nil (by simp; with_reducible rfl) ?_) | (show W _ (.seq (.cond _ _ _) _) _ _; first | refine W_ct (by first | (simp [vc, v1, g1, g2, g4, q1, q2, q4, n1, a2]; done) | fail) ?_ | refine W_cf (by first | (simp [vc, v1, g1, g2, g4, q1, q2, q4, n1, a2]; done) | fail) ?_) | refine W_skip ?_ | refine W_bl (c := .seq _ _) ?_ | refine W_bl (c := .region _ _) ?_ | refine W_bl (c := .cond _ _ _) ?_ | refine W_bl (c := .block _ _) ?_ | refine W_rt ?_ | refine W_ex ?_ | refine W_end ?_ | refine W_tail (a := .region _ _) ?_ | refine W_tail (a := .cond _ _ _) ?_ | refine W_tail (a := .ret) ?_ | refine W_tail (a := .exit _) ?_ | refine W_tail (a := .block _ _) ?_ | refine QB_normal ?_ | refine QB_exit ?_ | refine QB_ret ?_ | refine QB_out (by decide) ?_ | refine QL_next ?_ | refine QL_exit ?_ | refine QL_ret ?_ | refine QL_out (by decide) ?_ | (show Fin _ _ .ret _; exact Fin_ret (by first | (simp [c30]; done) | (simp [c30]; with_reducible rfl))) | (show Fin _ _ .normal _; exact Fin_end (by first | (simp [c30]; done) | (simp [c30]; with_reducible rfl))))
  · try simp only [f0, List.append_nil, List.nil_append]
    try simp only [← List.append_assoc]
    have a2 := n2 rfl
    obtain ⟨a2, l2⟩ := a2
    have z2 : (r1 ++ fb true j).length = r1.length + (fb true j).length := by simp
    generalize r1 ++ fb true j = r2 at *
    have a3 := n4 rfl r2 (by omega)
    have z3 : (r2 ++ fb true e).length = r2.length + (fb true e).length := by simp
    generalize r2 ++ fb true e = r3 at *
    repeat (first | refine W_assoc ?_ | (show W _ (.seq (.region _ _) _) _ _; refine W_reg (by simp; with_reducible rfl) ?_) | (show R _ _ _ (_ :: _) _ _ _ _; refine R_op (by simp (maxSteps := 2000000) [vc, v1, g1, g2, g4, q1, q2, q4, n1, a2, a3]; with_reducible rfl) ?_) | (show R _ _ _ [] _ _ _ _; refine R_nil (by simp; with_reducible rfl) ?_) | (show W _ (.seq (.cond _ _ _) _) _ _; first | refine W_ct (by first | (simp [vc, v1, g1, g2, g4, q1, q2, q4, n1, a2, a3]; done) | fail) ?_ | refine W_cf (by first | (simp [vc, v1, g1, g2, g4, q1, q2, q4, n1, a2, a3]; done) | fail) ?_) | refine W_skip ?_ | refine W_bl (c := .seq _ _) ?_ | refine W_bl (c := .region _ _) ?_ | refine W_bl (c := .cond _ _ _) ?_ | refine W_bl (c := .block _ _) ?_ | refine W_rt ?_ | refine W_ex ?_ | refine W_end ?_ | refine W_tail (a := .region _ _) ?_ | refine W_tail (a := .cond _ _ _) ?_ | refine W_tail (a := .ret) ?_ | refine W_tail (a := .exit _) ?_ | refine W_tail (a := .block _ _) ?_ | refine QB_normal ?_ | refine QB_exit ?_ | refine QB_ret ?_ | refine QB_out (by decide) ?_ | refine QL_next ?_ | refine QL_exit ?_ | refine QL_ret ?_ | refine QL_out (by decide) ?_ | (show Fin _ _ .ret _; exact Fin_ret (by first | (simp [c30]; done) | (simp [c30]; with_reducible rfl))) | (show Fin _ _ .normal _; exact Fin_end (by first | (simp [c30]; done) | (simp [c30]; with_reducible rfl))))
  · try simp only [f0, List.append_nil, List.nil_append]
    try simp only [← List.append_assoc]
    have a2 := n2 rfl
    obtain ⟨a2, l2⟩ := a2
    have z2 : (r1 ++ fb true j).length = r1.length + (fb true j).length := by simp
    generalize r1 ++ fb true j = r2 at *
    have a3 := n3 rfl r2 (by omega)
    obtain ⟨a3, l3⟩ := a3
    have z3 : (r2 ++ fb true t).length = r2.length + (fb true t).length := by simp
    generalize r2 ++ fb true t = r3 at *
    repeat (first | refine W_assoc ?_ | (show W _ (.seq (.region _ _) _) _ _; refine W_reg (by simp; with_reducible rfl) ?_) | (show R _ _ _ (_ :: _) _ _ _ _; refine R_op (by simp (maxSteps := 2000000) [vc, v1, g1, g2, g4, q1, q2, q4, n1, a2, a3]; with_reducible rfl) ?_) | (show R _ _ _ [] _ _ _ _; refine R_nil (by simp; with_reducible rfl) ?_) | (show W _ (.seq (.cond _ _ _) _) _ _; first | refine W_ct (by first | (simp [vc, v1, g1, g2, g4, q1, q2, q4, n1, a2, a3]; done) | fail) ?_ | refine W_cf (by first | (simp [vc, v1, g1, g2, g4, q1, q2, q4, n1, a2, a3]; done) | fail) ?_) | refine W_skip ?_ | refine W_bl (c := .seq _ _) ?_ | refine W_bl (c := .region _ _) ?_ | refine W_bl (c := .cond _ _ _) ?_ | refine W_bl (c := .block _ _) ?_ | refine W_rt ?_ | refine W_ex ?_ | refine W_end ?_ | refine W_tail (a := .region _ _) ?_ | refine W_tail (a := .cond _ _ _) ?_ | refine W_tail (a := .ret) ?_ | refine W_tail (a := .exit _) ?_ | refine W_tail (a := .block _ _) ?_ | refine QB_normal ?_ | refine QB_exit ?_ | refine QB_ret ?_ | refine QB_out (by decide) ?_ | refine QL_next ?_ | refine QL_exit ?_ | refine QL_ret ?_ | refine QL_out (by decide) ?_ | (show Fin _ _ .ret _; exact Fin_ret (by first | (simp [c30]; done) | (simp [c30]; with_reducible rfl))) | (show Fin _ _ .normal _; exact Fin_end (by first | (simp [c30]; done) | (simp [c30]; with_reducible rfl))))
  · try simp only [f0, List.append_nil, List.nil_append]
    try simp only [← List.append_assoc]
    have a2 := n2 rfl
    obtain ⟨a2, l2⟩ := a2
    have z2 : (r1 ++ fb true j).length = r1.length + (fb true j).length := by simp
    generalize r1 ++ fb true j = r2 at *
    have a3 := n3 rfl r2 (by omega)
    obtain ⟨a3, l3⟩ := a3
    have z3 : (r2 ++ fb true t).length = r2.length + (fb true t).length := by simp
    generalize r2 ++ fb true t = r3 at *
    have a4 := n4 rfl r3 (by omega)
    have z4 : (r3 ++ fb true e).length = r3.length + (fb true e).length := by simp
    generalize r3 ++ fb true e = r4 at *
    repeat (first | refine W_assoc ?_ | (show W _ (.seq (.region _ _) _) _ _; refine W_reg (by simp; with_reducible rfl) ?_) | (show R _ _ _ (_ :: _) _ _ _ _; refine R_op (by simp (maxSteps := 2000000) [vc, v1, g1, g2, g4, q1, q2, q4, n1, a2, a3, a4]; with_reducible rfl) ?_) | (show R _ _ _ [] _ _ _ _; refine R_nil (by simp; with_reducible rfl) ?_) | (show W _ (.seq (.cond _ _ _) _) _ _; first | refine W_ct (by first | (simp [vc, v1, g1, g2, g4, q1, q2, q4, n1, a2, a3, a4]; done) | fail) ?_ | refine W_cf (by first | (simp [vc, v1, g1, g2, g4, q1, q2, q4, n1, a2, a3, a4]; done) | fail) ?_) | refine W_skip ?_ | refine W_bl (c := .seq _ _) ?_ | refine W_bl (c := .region _ _) ?_ | refine W_bl (c := .cond _ _ _) ?_ | refine W_bl (c := .block _ _) ?_ | refine W_rt ?_ | refine W_ex ?_ | refine W_end ?_ | refine W_tail (a := .region _ _) ?_ | refine W_tail (a := .cond _ _ _) ?_ | refine W_tail (a := .ret) ?_ | refine W_tail (a := .exit _) ?_ | refine W_tail (a := .block _ _) ?_ | refine QB_normal ?_ | refine QB_exit ?_ | refine QB_ret ?_ | refine QB_out (by decide) ?_ | refine QL_next ?_ | refine QL_exit ?_ | refine QL_ret ?_ | refine QL_out (by decide) ?_ | (show Fin _ _ .ret _; exact Fin_ret (by first | (simp [c30]; done) | (simp [c30]; with_reducible rfl))) | (show Fin _ _ .normal _; exact Fin_end (by first | (simp [c30]; done) | (simp [c30]; with_reducible rfl))))

theorem V_Bytes0 (m : M4) (h : chkM m = false) : FV (F T) 30 [.agg (m4 m)] = some (.str ⟨⟨[]⟩⟩) := by
  have vc := V_Check m
  rw [h] at vc
  simp only [m4] at vc
  refine FV_W T30 (r := ?r1) ?h1 ?v1
  case h1 =>
    simp only [c30, c30_b, Lift.start]
    repeat (first | refine W_assoc ?_ | (show W _ (.seq (.region _ _) _) _ _; refine W_reg (by simp; with_reducible rfl) ?_) | (show R _ _ _ (_ :: _) _ _ _ _; refine R_op (by simp (maxSteps := 2000000) [vc]; with_reducible rfl) ?_) | (show R _ _ _ [] _ _ _ _; refine R_nil (by simp; with_reducible rfl) ?_) | (show W _ (.seq (.cond _ _ _) _) _ _; first | refine W_ct (by first | (simp [vc]; done) | fail) ?_ | refine W_cf (by first | (simp [vc]; done) | fail) ?_) | refine W_skip ?_ | refine W_bl (c := .seq _ _) ?_ | refine W_bl (c := .region _ _) ?_ | refine W_bl (c := .cond _ _ _) ?_ | refine W_bl (c := .block _ _) ?_ | refine W_rt ?_ | refine W_ex ?_ | refine W_end ?_ | refine W_tail (a := .region _ _) ?_ | refine W_tail (a := .cond _ _ _) ?_ | refine W_tail (a := .ret) ?_ | refine W_tail (a := .exit _) ?_ | refine W_tail (a := .block _ _) ?_ | refine QB_normal ?_ | refine QB_exit ?_ | refine QB_ret ?_ | refine QB_out (by decide) ?_ | refine QL_next ?_ | refine QL_exit ?_ | refine QL_ret ?_ | refine QL_out (by decide) ?_ | (show Fin _ _ .ret _; exact Fin_ret (by first | (simp [c30]; done) | (simp [c30]; with_reducible rfl))) | (show Fin _ _ .normal _; exact Fin_end (by first | (simp [c30]; done) | (simp [c30]; with_reducible rfl))))
  case v1 => simp

end Go.Proofs.Ytnobgooojbppbac.Oct
