/- What tasks need: the document's check. -/
import Derived.Test.YtnobgooojbppbabNeed2
set_option linter.all false
set_option linter.unusedSimpArgs false
set_option maxRecDepth 100000
set_option maxHeartbeats 4000000
namespace Go.Proofs.Ytnobgooojbppbab.Need
open Go Go.RowKit Go.Proofs.Ytnobgooojbppbab.Lift Go.Proofs.Ytnobgooojbppbab.TND Go.Proofs.Ytnobgooojbppbab.Base Go.Proofs.Ytnobgooojbppbab.NeedPure

theorem V_parts0 (op : Int) : FV (F T) 71 [.int .i64 op] = some (.int .i64 (parts op)) := by
  by_cases h1 : op = 3
  · subst h1
    refine FV_W T71 (r := ?r1) ?h1 ?v1
    case h1 =>
      simp only [c71, c71_b, Lift.start]
      repeat (first | refine W_assoc ?_ | (show W _ (.seq (.region _ _) _) _ _; refine W_reg (by simp; with_reducible rfl) ?_) | (show R _ _ _ (_ :: _) _ _ _ _; refine R_op (by simp (maxSteps := 2000000); with_reducible rfl) ?_) | (show R _ _ _ [] _ _ _ _; refine R_nil (by simp; with_reducible rfl) ?_) | (show W _ (.seq (.cond _ _ _) _) _ _; first | refine W_ct (by first | (simp; done) | fail) ?_ | refine W_cf (by first | (simp; done) | fail) ?_) | refine W_skip ?_ | refine W_bl (c := .seq _ _) ?_ | refine W_bl (c := .region _ _) ?_ | refine W_bl (c := .cond _ _ _) ?_ | refine W_bl (c := .block _ _) ?_ | refine W_rt ?_ | refine W_ex ?_ | refine W_end ?_ | refine W_tail (a := .region _ _) ?_ | refine W_tail (a := .cond _ _ _) ?_ | refine W_tail (a := .ret) ?_ | refine W_tail (a := .exit _) ?_ | refine W_tail (a := .block _ _) ?_ | refine QB_normal ?_ | refine QB_exit ?_ | refine QB_ret ?_ | refine QB_out (by decide) ?_ | refine QL_next ?_ | refine QL_exit ?_ | refine QL_ret ?_ | refine QL_out (by decide) ?_ | (show Fin _ _ .ret _; exact Fin_ret (by first | (simp [c71]; done) | (simp [c71]; with_reducible rfl))) | (show Fin _ _ .normal _; exact Fin_end (by first | (simp [c71]; done) | (simp [c71]; with_reducible rfl))))
    case v1 => simp [parts]
  · by_cases h2 : op = 4
    · subst h2
      refine FV_W T71 (r := ?r2) ?h2 ?v2
      case h2 =>
        simp only [c71, c71_b, Lift.start]
        repeat (first | refine W_assoc ?_ | (show W _ (.seq (.region _ _) _) _ _; refine W_reg (by simp; with_reducible rfl) ?_) | (show R _ _ _ (_ :: _) _ _ _ _; refine R_op (by simp (maxSteps := 2000000); with_reducible rfl) ?_) | (show R _ _ _ [] _ _ _ _; refine R_nil (by simp; with_reducible rfl) ?_) | (show W _ (.seq (.cond _ _ _) _) _ _; first | refine W_ct (by first | (simp; done) | fail) ?_ | refine W_cf (by first | (simp; done) | fail) ?_) | refine W_skip ?_ | refine W_bl (c := .seq _ _) ?_ | refine W_bl (c := .region _ _) ?_ | refine W_bl (c := .cond _ _ _) ?_ | refine W_bl (c := .block _ _) ?_ | refine W_rt ?_ | refine W_ex ?_ | refine W_end ?_ | refine W_tail (a := .region _ _) ?_ | refine W_tail (a := .cond _ _ _) ?_ | refine W_tail (a := .ret) ?_ | refine W_tail (a := .exit _) ?_ | refine W_tail (a := .block _ _) ?_ | refine QB_normal ?_ | refine QB_exit ?_ | refine QB_ret ?_ | refine QB_out (by decide) ?_ | refine QL_next ?_ | refine QL_exit ?_ | refine QL_ret ?_ | refine QL_out (by decide) ?_ | (show Fin _ _ .ret _; exact Fin_ret (by first | (simp [c71]; done) | (simp [c71]; with_reducible rfl))) | (show Fin _ _ .normal _; exact Fin_end (by first | (simp [c71]; done) | (simp [c71]; with_reducible rfl))))
      case v2 => simp [parts]
    · by_cases h3 : op = 5
      · subst h3
        refine FV_W T71 (r := ?r3) ?h3 ?v3
        case h3 =>
          simp only [c71, c71_b, Lift.start]
          repeat (first | refine W_assoc ?_ | (show W _ (.seq (.region _ _) _) _ _; refine W_reg (by simp; with_reducible rfl) ?_) | (show R _ _ _ (_ :: _) _ _ _ _; refine R_op (by simp (maxSteps := 2000000); with_reducible rfl) ?_) | (show R _ _ _ [] _ _ _ _; refine R_nil (by simp; with_reducible rfl) ?_) | (show W _ (.seq (.cond _ _ _) _) _ _; first | refine W_ct (by first | (simp; done) | fail) ?_ | refine W_cf (by first | (simp; done) | fail) ?_) | refine W_skip ?_ | refine W_bl (c := .seq _ _) ?_ | refine W_bl (c := .region _ _) ?_ | refine W_bl (c := .cond _ _ _) ?_ | refine W_bl (c := .block _ _) ?_ | refine W_rt ?_ | refine W_ex ?_ | refine W_end ?_ | refine W_tail (a := .region _ _) ?_ | refine W_tail (a := .cond _ _ _) ?_ | refine W_tail (a := .ret) ?_ | refine W_tail (a := .exit _) ?_ | refine W_tail (a := .block _ _) ?_ | refine QB_normal ?_ | refine QB_exit ?_ | refine QB_ret ?_ | refine QB_out (by decide) ?_ | refine QL_next ?_ | refine QL_exit ?_ | refine QL_ret ?_ | refine QL_out (by decide) ?_ | (show Fin _ _ .ret _; exact Fin_ret (by first | (simp [c71]; done) | (simp [c71]; with_reducible rfl))) | (show Fin _ _ .normal _; exact Fin_end (by first | (simp [c71]; done) | (simp [c71]; with_reducible rfl))))
        case v3 => simp [parts]
      · refine FV_W T71 (r := ?r4) ?h4 ?v4
        case h4 =>
          simp only [c71, c71_b, Lift.start]
          repeat (first | refine W_assoc ?_ | (show W _ (.seq (.region _ _) _) _ _; refine W_reg (by simp; with_reducible rfl) ?_) | (show R _ _ _ (_ :: _) _ _ _ _; refine R_op (by simp (maxSteps := 2000000) [h1, h2, h3]; with_reducible rfl) ?_) | (show R _ _ _ [] _ _ _ _; refine R_nil (by simp; with_reducible rfl) ?_) | (show W _ (.seq (.cond _ _ _) _) _ _; first | refine W_ct (by first | (simp [h1, h2, h3]; done) | fail) ?_ | refine W_cf (by first | (simp [h1, h2, h3]; done) | fail) ?_) | refine W_skip ?_ | refine W_bl (c := .seq _ _) ?_ | refine W_bl (c := .region _ _) ?_ | refine W_bl (c := .cond _ _ _) ?_ | refine W_bl (c := .block _ _) ?_ | refine W_rt ?_ | refine W_ex ?_ | refine W_end ?_ | refine W_tail (a := .region _ _) ?_ | refine W_tail (a := .cond _ _ _) ?_ | refine W_tail (a := .ret) ?_ | refine W_tail (a := .exit _) ?_ | refine W_tail (a := .block _ _) ?_ | refine QB_normal ?_ | refine QB_exit ?_ | refine QB_ret ?_ | refine QB_out (by decide) ?_ | refine QL_next ?_ | refine QL_exit ?_ | refine QL_ret ?_ | refine QL_out (by decide) ?_ | (show Fin _ _ .ret _; exact Fin_ret (by first | (simp [c71]; done) | (simp [c71]; with_reducible rfl))) | (show Fin _ _ .normal _; exact Fin_end (by first | (simp [c71]; done) | (simp [c71]; with_reducible rfl))))
        case v4 => simp [parts, h1, h2, h3]

theorem V_R09may (n : P2) : FV (F T) 63 [.agg [.int .i64 n.1, .int .i64 n.2]] = some (.bool (may n)) := by
  unfold may
  by_cases h1 : n.1 = 2
  · by_cases h2 : 0 ≤ n.2
    · refine FV_W T63 (r := ?r1) ?h1 ?v1
      case h1 =>
        simp only [c63, c63_b, Lift.start]
        repeat (first | refine W_assoc ?_ | (show W _ (.seq (.region _ _) _) _ _; refine W_reg (by simp; with_reducible rfl) ?_) | (show R _ _ _ (_ :: _) _ _ _ _; refine R_op (by simp (maxSteps := 2000000) [h1, h2]; with_reducible rfl) ?_) | (show R _ _ _ [] _ _ _ _; refine R_nil (by simp; with_reducible rfl) ?_) | (show W _ (.seq (.cond _ _ _) _) _ _; first | refine W_ct (by first | (simp [h1, h2]; done) | fail) ?_ | refine W_cf (by first | (simp [h1, h2]; done) | fail) ?_) | refine W_skip ?_ | refine W_bl (c := .seq _ _) ?_ | refine W_bl (c := .region _ _) ?_ | refine W_bl (c := .cond _ _ _) ?_ | refine W_bl (c := .block _ _) ?_ | refine W_rt ?_ | refine W_ex ?_ | refine W_end ?_ | refine W_tail (a := .region _ _) ?_ | refine W_tail (a := .cond _ _ _) ?_ | refine W_tail (a := .ret) ?_ | refine W_tail (a := .exit _) ?_ | refine W_tail (a := .block _ _) ?_ | refine QB_normal ?_ | refine QB_exit ?_ | refine QB_ret ?_ | refine QB_out (by decide) ?_ | refine QL_next ?_ | refine QL_exit ?_ | refine QL_ret ?_ | refine QL_out (by decide) ?_ | (show Fin _ _ .ret _; exact Fin_ret (by first | (simp [c63]; done) | (simp [c63]; with_reducible rfl))) | (show Fin _ _ .normal _; exact Fin_end (by first | (simp [c63]; done) | (simp [c63]; with_reducible rfl))))
      case v1 => simp [h1, h2]
    · refine FV_W T63 (r := ?r2) ?h2 ?v2
      case h2 =>
        simp only [c63, c63_b, Lift.start]
        repeat (first | refine W_assoc ?_ | (show W _ (.seq (.region _ _) _) _ _; refine W_reg (by simp; with_reducible rfl) ?_) | (show R _ _ _ (_ :: _) _ _ _ _; refine R_op (by simp (maxSteps := 2000000) [h1, h2]; with_reducible rfl) ?_) | (show R _ _ _ [] _ _ _ _; refine R_nil (by simp; with_reducible rfl) ?_) | (show W _ (.seq (.cond _ _ _) _) _ _; first | refine W_ct (by first | (simp [h1, h2]; done) | fail) ?_ | refine W_cf (by first | (simp [h1, h2]; done) | fail) ?_) | refine W_skip ?_ | refine W_bl (c := .seq _ _) ?_ | refine W_bl (c := .region _ _) ?_ | refine W_bl (c := .cond _ _ _) ?_ | refine W_bl (c := .block _ _) ?_ | refine W_rt ?_ | refine W_ex ?_ | refine W_end ?_ | refine W_tail (a := .region _ _) ?_ | refine W_tail (a := .cond _ _ _) ?_ | refine W_tail (a := .ret) ?_ | refine W_tail (a := .exit _) ?_ | refine W_tail (a := .block _ _) ?_ | refine QB_normal ?_ | refine QB_exit ?_ | refine QB_ret ?_ | refine QB_out (by decide) ?_ | refine QL_next ?_ | refine QL_exit ?_ | refine QL_ret ?_ | refine QL_out (by decide) ?_ | (show Fin _ _ .ret _; exact Fin_ret (by first | (simp [c63]; done) | (simp [c63]; with_reducible rfl))) | (show Fin _ _ .normal _; exact Fin_end (by first | (simp [c63]; done) | (simp [c63]; with_reducible rfl))))
      case v2 => simp [h1, h2]
  · by_cases h2 : 1 ≤ n.1
    · by_cases h3 : n.1 ≤ 5
      · refine FV_W T63 (r := ?r3) ?h3 ?v3
        case h3 =>
          simp only [c63, c63_b, Lift.start]
          repeat (first | refine W_assoc ?_ | (show W _ (.seq (.region _ _) _) _ _; refine W_reg (by simp; with_reducible rfl) ?_) | (show R _ _ _ (_ :: _) _ _ _ _; refine R_op (by simp (maxSteps := 2000000) [h1, h2, h3]; with_reducible rfl) ?_) | (show R _ _ _ [] _ _ _ _; refine R_nil (by simp; with_reducible rfl) ?_) | (show W _ (.seq (.cond _ _ _) _) _ _; first | refine W_ct (by first | (simp [h1, h2, h3]; done) | fail) ?_ | refine W_cf (by first | (simp [h1, h2, h3]; done) | fail) ?_) | refine W_skip ?_ | refine W_bl (c := .seq _ _) ?_ | refine W_bl (c := .region _ _) ?_ | refine W_bl (c := .cond _ _ _) ?_ | refine W_bl (c := .block _ _) ?_ | refine W_rt ?_ | refine W_ex ?_ | refine W_end ?_ | refine W_tail (a := .region _ _) ?_ | refine W_tail (a := .cond _ _ _) ?_ | refine W_tail (a := .ret) ?_ | refine W_tail (a := .exit _) ?_ | refine W_tail (a := .block _ _) ?_ | refine QB_normal ?_ | refine QB_exit ?_ | refine QB_ret ?_ | refine QB_out (by decide) ?_ | refine QL_next ?_ | refine QL_exit ?_ | refine QL_ret ?_ | refine QL_out (by decide) ?_ | (show Fin _ _ .ret _; exact Fin_ret (by first | (simp [c63]; done) | (simp [c63]; with_reducible rfl))) | (show Fin _ _ .normal _; exact Fin_end (by first | (simp [c63]; done) | (simp [c63]; with_reducible rfl))))
        case v3 => simp [h1, h2, h3]
      · refine FV_W T63 (r := ?r4) ?h4 ?v4
        case h4 =>
          simp only [c63, c63_b, Lift.start]
          repeat (first | refine W_assoc ?_ | (show W _ (.seq (.region _ _) _) _ _; refine W_reg (by simp; with_reducible rfl) ?_) | (show R _ _ _ (_ :: _) _ _ _ _; refine R_op (by simp (maxSteps := 2000000) [h1, h2, h3]; with_reducible rfl) ?_) | (show R _ _ _ [] _ _ _ _; refine R_nil (by simp; with_reducible rfl) ?_) | (show W _ (.seq (.cond _ _ _) _) _ _; first | refine W_ct (by first | (simp [h1, h2, h3]; done) | fail) ?_ | refine W_cf (by first | (simp [h1, h2, h3]; done) | fail) ?_) | refine W_skip ?_ | refine W_bl (c := .seq _ _) ?_ | refine W_bl (c := .region _ _) ?_ | refine W_bl (c := .cond _ _ _) ?_ | refine W_bl (c := .block _ _) ?_ | refine W_rt ?_ | refine W_ex ?_ | refine W_end ?_ | refine W_tail (a := .region _ _) ?_ | refine W_tail (a := .cond _ _ _) ?_ | refine W_tail (a := .ret) ?_ | refine W_tail (a := .exit _) ?_ | refine W_tail (a := .block _ _) ?_ | refine QB_normal ?_ | refine QB_exit ?_ | refine QB_ret ?_ | refine QB_out (by decide) ?_ | refine QL_next ?_ | refine QL_exit ?_ | refine QL_ret ?_ | refine QL_out (by decide) ?_ | (show Fin _ _ .ret _; exact Fin_ret (by first | (simp [c63]; done) | (simp [c63]; with_reducible rfl))) | (show Fin _ _ .normal _; exact Fin_end (by first | (simp [c63]; done) | (simp [c63]; with_reducible rfl))))
        case v4 => simp [h1, h2, h3]
    · refine FV_W T63 (r := ?r5) ?h5 ?v5
      case h5 =>
        simp only [c63, c63_b, Lift.start]
        repeat (first | refine W_assoc ?_ | (show W _ (.seq (.region _ _) _) _ _; refine W_reg (by simp; with_reducible rfl) ?_) | (show R _ _ _ (_ :: _) _ _ _ _; refine R_op (by simp (maxSteps := 2000000) [h1, h2]; with_reducible rfl) ?_) | (show R _ _ _ [] _ _ _ _; refine R_nil (by simp; with_reducible rfl) ?_) | (show W _ (.seq (.cond _ _ _) _) _ _; first | refine W_ct (by first | (simp [h1, h2]; done) | fail) ?_ | refine W_cf (by first | (simp [h1, h2]; done) | fail) ?_) | refine W_skip ?_ | refine W_bl (c := .seq _ _) ?_ | refine W_bl (c := .region _ _) ?_ | refine W_bl (c := .cond _ _ _) ?_ | refine W_bl (c := .block _ _) ?_ | refine W_rt ?_ | refine W_ex ?_ | refine W_end ?_ | refine W_tail (a := .region _ _) ?_ | refine W_tail (a := .cond _ _ _) ?_ | refine W_tail (a := .ret) ?_ | refine W_tail (a := .exit _) ?_ | refine W_tail (a := .block _ _) ?_ | refine QB_normal ?_ | refine QB_exit ?_ | refine QB_ret ?_ | refine QB_out (by decide) ?_ | refine QL_next ?_ | refine QL_exit ?_ | refine QL_ret ?_ | refine QL_out (by decide) ?_ | (show Fin _ _ .ret _; exact Fin_ret (by first | (simp [c63]; done) | (simp [c63]; with_reducible rfl))) | (show Fin _ _ .normal _; exact Fin_end (by first | (simp [c63]; done) | (simp [c63]; with_reducible rfl))))
      case v5 => simp [h1, h2]

/-- Where a tree begins that ends ahead of a place. -/
def begV (e : Nat) : Option Nat → Int
  | some c => (e : Int) - c
  | none => -1

theorem begin_loop (l : List P2) (hl : l.length ≤ 1000) (e : Nat) (he : e ≤ l.length) :
    ∀ (p lack : Nat) (st : ASt), p ≤ e → 1 ≤ lack → lack ≤ 1 + 2 * (e - p) → canon [0, 5, 6] st = ⟨[.ro 2 (enc e2 l) false, .top, .top, .top, .top, .int .i64 lack, .int .i64 ((p : Int) - 1), .top, .top, .top, .top, .top, .top, .top, .top, .top, .top, .top, .top, .top, .top, .top, .top, .top], [], 0, 0⟩ →
      W T c64_k0 st (Lift.Fin c64 (.int .i64 (begV e (scanB (l.take p).reverse lack (e - p))), [])) := by
  intro p
  induction p with
  | zero =>
    intro lack st hp h1 h2 hc
    unfold c64_k0
    refine W_round hc ?_
    unfold c64_l0
    repeat (first | refine W_assoc ?_ | (show W _ (.seq (.region _ _) _) _ _; refine W_reg (by simp; with_reducible rfl) ?_) | (show R _ _ _ (_ :: _) _ _ _ _; refine R_op (by simp (maxSteps := 2000000); with_reducible rfl) ?_) | (show R _ _ _ [] _ _ _ _; refine R_nil (by simp; with_reducible rfl) ?_) | (show W _ (.seq (.cond _ _ _) _) _ _; first | refine W_ct (by first | (simp; done) | fail) ?_ | refine W_cf (by first | (simp; done) | fail) ?_) | refine W_skip ?_ | refine W_bl (c := .seq _ _) ?_ | refine W_bl (c := .region _ _) ?_ | refine W_bl (c := .cond _ _ _) ?_ | refine W_bl (c := .block _ _) ?_ | refine W_rt ?_ | refine W_ex ?_ | refine W_end ?_ | refine W_tail (a := .region _ _) ?_ | refine W_tail (a := .cond _ _ _) ?_ | refine W_tail (a := .ret) ?_ | refine W_tail (a := .exit _) ?_ | refine W_tail (a := .block _ _) ?_ | refine QB_normal ?_ | refine QB_exit ?_ | refine QB_ret ?_ | refine QB_out (by decide) ?_ | refine QL_next ?_ | refine QL_exit ?_ | refine QL_ret ?_ | refine QL_out (by decide) ?_ | (show Fin _ _ .ret _; exact Fin_ret (by first | (simp [c64, scanB, begV]; done) | (simp [c64, scanB, begV]; with_reducible rfl))) | (show Fin _ _ .normal _; exact Fin_end (by first | (simp [c64, scanB, begV]; done) | (simp [c64, scanB, begV]; with_reducible rfl))))
  | succ p ih =>
    intro lack st hp h1 h2 hc
    have hlt : p < l.length := by omega
    have e1 : (l.take (p + 1)).reverse = l[p] :: (l.take p).reverse := by
      rw [List.take_succ_eq_append_getElem hlt, List.reverse_append]; rfl
    have hpc := parts_cases (l[p]).1
    have v1 := V_parts0 (l[p]).1
    have w1 : IntKind.i64.wrap ((lack : Int) - 1) = ((lack - 1 : Nat) : Int) := by rw [wrap_i64 _ (by omega) (by omega)]; omega
    have w2 : IntKind.i64.wrap (((lack - 1 : Nat) : Int) + (parts (l[p]).1 : Nat)) = ((lack - 1 + parts (l[p]).1 : Nat) : Int) := by rw [wrap_i64 _ (by omega) (by omega)]; omega
    have w3 : IntKind.i64.wrap ((p : Int) - 1) = (p : Int) - 1 := by rw [wrap_i64 _ (by omega) (by omega)]
    have z1 : ((p + 1 : Nat) : Int) - 1 = p := by omega
    rw [z1] at hc
    rw [e1]
    unfold c64_k0
    refine W_round hc ?_
    unfold c64_l0
    by_cases h0 : lack - 1 + parts (l[p]).1 = 0
    · rw [h0] at w2
      have hr : begV e (scanB (l[p] :: (l.take p).reverse) lack (e - (p + 1))) = p := by
        simp only [scanB, h0, if_true, begV]
        omega
      rw [hr]
      repeat (first | refine W_assoc ?_ | (show W _ (.seq (.region _ _) _) _ _; refine W_reg (by simp; with_reducible rfl) ?_) | (show R _ _ _ (_ :: _) _ _ _ _; refine R_op (by simp (maxSteps := 2000000) [hlt, v1, w1, w2, w3]; with_reducible rfl) ?_) | (show R _ _ _ [] _ _ _ _; refine R_nil (by simp; with_reducible rfl) ?_) | (show W _ (.seq (.cond _ _ _) _) _ _; first | refine W_ct (by first | (simp [hlt, v1, w1, w2, w3]; done) | fail) ?_ | refine W_cf (by first | (simp [hlt, v1, w1, w2, w3]; done) | fail) ?_) | refine W_skip ?_ | refine W_bl (c := .seq _ _) ?_ | refine W_bl (c := .region _ _) ?_ | refine W_bl (c := .cond _ _ _) ?_ | refine W_bl (c := .block _ _) ?_ | refine W_rt ?_ | refine W_ex ?_ | refine W_end ?_ | refine W_tail (a := .region _ _) ?_ | refine W_tail (a := .cond _ _ _) ?_ | refine W_tail (a := .ret) ?_ | refine W_tail (a := .exit _) ?_ | refine W_tail (a := .block _ _) ?_ | refine QB_normal ?_ | refine QB_exit ?_ | refine QB_ret ?_ | refine QB_out (by decide) ?_ | refine QL_next ?_ | refine QL_exit ?_ | refine QL_ret ?_ | refine QL_out (by decide) ?_ | (show Fin _ _ .ret _; exact Fin_ret (by first | (simp [c64]; done) | (simp [c64]; with_reducible rfl))) | (show Fin _ _ .normal _; exact Fin_end (by first | (simp [c64]; done) | (simp [c64]; with_reducible rfl))))
    · have hr : scanB (l[p] :: (l.take p).reverse) lack (e - (p + 1)) = scanB (l.take p).reverse (lack - 1 + parts (l[p]).1) (e - p) := by
        simp only [scanB, h0, if_false]
        congr 1
        omega
      rw [hr]
      have hn0 : ¬ ((lack - 1 + parts (l[p]).1 : Nat) : Int) = 0 := by omega
      generalize hL : lack - 1 + parts (l[p]).1 = L at *
      repeat (first | refine W_assoc ?_ | (show W _ (.seq (.region _ _) _) _ _; refine W_reg (by simp; with_reducible rfl) ?_) | (show R _ _ _ (_ :: _) _ _ _ _; refine R_op (by simp (maxSteps := 2000000) [hlt, v1, w1, w2, w3, hn0, h0]; with_reducible rfl) ?_) | (show R _ _ _ [] _ _ _ _; refine R_nil (by simp; with_reducible rfl) ?_) | (show W _ (.seq (.cond _ _ _) _) _ _; first | refine W_ct (by first | (simp [hlt, v1, w1, w2, w3, hn0, h0]; done) | fail) ?_ | refine W_cf (by first | (simp [hlt, v1, w1, w2, w3, hn0, h0]; done) | fail) ?_) | refine W_skip ?_ | refine W_bl (c := .seq _ _) ?_ | refine W_bl (c := .region _ _) ?_ | refine W_bl (c := .cond _ _ _) ?_ | refine W_bl (c := .block _ _) ?_ | refine W_rt ?_ | refine W_ex ?_ | refine W_end ?_ | refine W_tail (a := .region _ _) ?_ | refine W_tail (a := .cond _ _ _) ?_ | refine W_tail (a := .ret) ?_ | refine W_tail (a := .exit _) ?_ | refine W_tail (a := .block _ _) ?_ | refine QB_normal ?_ | refine QB_exit ?_ | refine QB_ret ?_ | refine QB_out (by decide) ?_ | refine QL_next ?_ | refine QL_exit ?_ | refine QL_ret ?_ | refine QL_out (by decide) ?_ | (show Fin _ _ .ret _; exact Fin_ret (by first | (simp; done) | (simp; with_reducible rfl))) | (show Fin _ _ .normal _; exact Fin_end (by first | (simp; done) | (simp; with_reducible rfl))))
      refine ih L _ ?_ ?_ ?_ ?_
      · omega
      · omega
      · omega
      · simp

theorem V_begin (l : List P2) (hl : l.length ≤ 1000) (e : Nat) (he : e ≤ l.length) : FV (F T) 64 [.ro 2 (enc e2 l) false, .int .i64 ((e : Int) - 1)] = some (.int .i64 (begV e (scanB (l.take e).reverse 1 0))) := by
  have h : F T 64 [.ro 2 (enc e2 l) false, .int .i64 ((e : Int) - 1)] [] = some (.int .i64 (begV e (scanB (l.take e).reverse 1 0)), []) := by
    refine F_W T64 ?_
    simp only [c64, c64_b, Lift.start]
    repeat (first | refine W_assoc ?_ | (show W _ (.seq (.region _ _) _) _ _; refine W_reg (by simp; with_reducible rfl) ?_) | (show R _ _ _ (_ :: _) _ _ _ _; refine R_op (by simp (maxSteps := 2000000); with_reducible rfl) ?_) | (show R _ _ _ [] _ _ _ _; refine R_nil (by simp; with_reducible rfl) ?_) | (show W _ (.seq (.cond _ _ _) _) _ _; first | refine W_ct (by first | (simp; done) | fail) ?_ | refine W_cf (by first | (simp; done) | fail) ?_) | refine W_skip ?_ | refine W_bl (c := .seq _ _) ?_ | refine W_bl (c := .region _ _) ?_ | refine W_bl (c := .cond _ _ _) ?_ | refine W_bl (c := .block _ _) ?_ | refine W_rt ?_ | refine W_ex ?_ | refine W_end ?_ | refine W_tail (a := .region _ _) ?_ | refine W_tail (a := .cond _ _ _) ?_ | refine W_tail (a := .ret) ?_ | refine W_tail (a := .exit _) ?_ | refine W_tail (a := .block _ _) ?_ | refine QB_normal ?_ | refine QB_exit ?_ | refine QB_ret ?_ | refine QB_out (by decide) ?_ | refine QL_next ?_ | refine QL_exit ?_ | refine QL_ret ?_ | refine QL_out (by decide) ?_ | (show Fin _ _ .ret _; exact Fin_ret (by first | (simp; done) | (simp; with_reducible rfl))) | (show Fin _ _ .normal _; exact Fin_end (by first | (simp; done) | (simp; with_reducible rfl))))
    have := begin_loop l hl e he e 1
    rw [Nat.sub_self] at this
    refine this _ ?_ ?_ ?_ ?_
    · omega
    · omega
    · omega
    · simp
  simpa using FV_of h

theorem last_of {l q : List P2} {x : P2} {e : Nat} (h : l.take e = q ++ [x]) (he : e ≤ l.length) : ∃ hlt : e - 1 < l.length, l[e - 1] = x ∧ l.take (e - 1) = q ∧ e = q.length + 1 := by
  have hlen : e = q.length + 1 := by
    have := congrArg List.length h
    simp at this; omega
  have hlt : e - 1 < l.length := by omega
  have h2 : l.take (e - 1 + 1) = l.take (e - 1) ++ [l[e - 1]] := List.take_succ_eq_append_getElem hlt
  rw [show e - 1 + 1 = e by omega, h] at h2
  have h3 := List.append_inj' h2 rfl
  refine ⟨hlt, by simpa using h3.2.symm, h3.1.symm, hlen⟩

/-- Where the tree begins that stands ahead. -/
theorem beg_at (l : List P2) (e : Nat) (he : e ≤ l.length) (pre : List P2) (t : Tr) (hg : good t = true) (h : l.take e = pre ++ post t) : begV e (scanB (l.take e).reverse 1 0) = pre.length := by
  have hlen : e = pre.length + (post t).length := by
    have := congrArg List.length h
    simp at this; omega
  have := scan_tree t pre.reverse 0 0 hg
  rw [h, List.reverse_append, this]
  simp only [if_true, begV, Nat.zero_add]
  omega

theorem F_depth0 (l : List P2) (hl : l.length ≤ 100) : ∀ (t : Tr) (pre : List P2) (e : Nat), e ≤ l.length → good t = true → l.take e = pre ++ post t → F T 65 [.ro 2 (enc e2 l) false, .int .i64 ((e : Int) - 1)] [] = some (.int .i64 (deep t), [])
  | .leaf n, pre, e, he, hg, h => by
    obtain ⟨hlt, h1, h2, h3⟩ := last_of (q := pre) (x := n) h he
    simp [good] at hg
    have v1 := V_parts0 n.1
    rw [hg.2] at v1
    have z1 : ((e : Int) - 1) = ((e - 1 : Nat) : Int) := by omega
    rw [z1]
    generalize e - 1 = p at *
    refine F_W T65 ?_
    simp only [c65, c65_b, Lift.start]
    repeat (first | refine W_assoc ?_ | (show W _ (.seq (.region _ _) _) _ _; refine W_reg (by simp; with_reducible rfl) ?_) | (show R _ _ _ (_ :: _) _ _ _ _; refine R_op (by simp (maxSteps := 2000000) [hlt, h1, v1]; with_reducible rfl) ?_) | (show R _ _ _ [] _ _ _ _; refine R_nil (by simp; with_reducible rfl) ?_) | (show W _ (.seq (.cond _ _ _) _) _ _; first | refine W_ct (by first | (simp [hlt, h1, v1]; done) | fail) ?_ | refine W_cf (by first | (simp [hlt, h1, v1]; done) | fail) ?_) | refine W_skip ?_ | refine W_bl (c := .seq _ _) ?_ | refine W_bl (c := .region _ _) ?_ | refine W_bl (c := .cond _ _ _) ?_ | refine W_bl (c := .block _ _) ?_ | refine W_rt ?_ | refine W_ex ?_ | refine W_end ?_ | refine W_tail (a := .region _ _) ?_ | refine W_tail (a := .cond _ _ _) ?_ | refine W_tail (a := .ret) ?_ | refine W_tail (a := .exit _) ?_ | refine W_tail (a := .block _ _) ?_ | refine QB_normal ?_ | refine QB_exit ?_ | refine QB_ret ?_ | refine QB_out (by decide) ?_ | refine QL_next ?_ | refine QL_exit ?_ | refine QL_ret ?_ | refine QL_out (by decide) ?_ | (show Fin _ _ .ret _; exact Fin_ret (by first | (simp [c65, deep]; done) | (simp [c65, deep]; with_reducible rfl))) | (show Fin _ _ .normal _; exact Fin_end (by first | (simp [c65, deep]; done) | (simp [c65, deep]; with_reducible rfl))))
  | .no t, pre, e, he, hg, h => by
    rw [post, ← List.append_assoc] at h
    obtain ⟨hlt, h1, h2, h3⟩ := last_of h he
    simp [good] at hg
    have ih := F_depth0 l hl t pre (e - 1) (by omega) hg h2
    have ihv := FV_of ih
    simp only [clo] at ihv
    have v1 := V_parts0 3
    have e3 : parts 3 = 1 := rfl
    rw [e3] at v1
    have z1 : ((e : Int) - 1) = ((e - 1 : Nat) : Int) := by omega
    rw [z1]
    have hd : deep t ≤ 100 := by
      have : ∀ t : Tr, deep t ≤ (post t).length := by
        intro t
        induction t with
        | leaf n => simp [deep, post]
        | no t ih => simp [deep, post]; omega
        | two b l r ihl ihr => simp [deep, post]; omega
      have h5 := this t
      have h6 := congrArg List.length h2
      simp at h6; omega
    have hp1 : 1 ≤ e - 1 := by have := post_pos t; have h6 := congrArg List.length h2; simp at h6; omega
    have w1 : IntKind.i64.wrap (((e - 1 : Nat) : Int) - 1) = ((e - 1 : Nat) : Int) - 1 := by rw [wrap_i64 _ (by omega) (by omega)]
    have w2 : IntKind.i64.wrap ((deep t : Int) + 1) = deep t + 1 := by rw [wrap_i64 _ (by omega) (by omega)]
    generalize e - 1 = p at *
    refine F_W T65 ?_
    simp only [c65, c65_b, Lift.start]
    repeat (first | refine W_assoc ?_ | (show W _ (.seq (.region _ _) _) _ _; refine W_reg (by simp; with_reducible rfl) ?_) | (show R _ _ _ (_ :: _) _ _ _ _; refine R_op (by simp (maxSteps := 2000000) [hlt, h1, v1, ih, ihv, w1, w2]; with_reducible rfl) ?_) | (show R _ _ _ [] _ _ _ _; refine R_nil (by simp; with_reducible rfl) ?_) | (show W _ (.seq (.cond _ _ _) _) _ _; first | refine W_ct (by first | (simp [hlt, h1, v1, ih, ihv, w1, w2]; done) | fail) ?_ | refine W_cf (by first | (simp [hlt, h1, v1, ih, ihv, w1, w2]; done) | fail) ?_) | refine W_skip ?_ | refine W_bl (c := .seq _ _) ?_ | refine W_bl (c := .region _ _) ?_ | refine W_bl (c := .cond _ _ _) ?_ | refine W_bl (c := .block _ _) ?_ | refine W_rt ?_ | refine W_ex ?_ | refine W_end ?_ | refine W_tail (a := .region _ _) ?_ | refine W_tail (a := .cond _ _ _) ?_ | refine W_tail (a := .ret) ?_ | refine W_tail (a := .exit _) ?_ | refine W_tail (a := .block _ _) ?_ | refine QB_normal ?_ | refine QB_exit ?_ | refine QB_ret ?_ | refine QB_out (by decide) ?_ | refine QL_next ?_ | refine QL_exit ?_ | refine QL_ret ?_ | refine QL_out (by decide) ?_ | (show Fin _ _ .ret _; exact Fin_ret (by first | (simp [c65, deep]; done) | (simp [c65, deep]; with_reducible rfl))) | (show Fin _ _ .normal _; exact Fin_end (by first | (simp [c65, deep]; done) | (simp [c65, deep]; with_reducible rfl))))
  | .two b lt rt, pre, e, he, hg, h => by
    rw [post, ← List.append_assoc] at h
    obtain ⟨hlt, h1, h2, h3⟩ := last_of h he
    rw [← List.append_assoc] at h2
    simp [good] at hg
    have ih1 := F_depth0 l hl rt (pre ++ post lt) (e - 1) (by omega) hg.2 h2
    have hb := beg_at l (e - 1) (by omega) (pre ++ post lt) rt hg.2 h2
    have vb := V_begin l (by omega) (e - 1) (by omega)
    rw [hb] at vb
    have h4 : l.take (pre ++ post lt).length = pre ++ post lt := by
      have := congrArg (List.take (pre ++ post lt).length) h2
      rw [List.take_take, List.take_left'] at this
      · rw [← this]; congr 1
        have h6 := congrArg List.length h2
        simp at h6
        simp; omega
      · rfl
    have hle : (pre ++ post lt).length ≤ l.length := by
      have h6 := congrArg List.length h2
      simp at h6; simp; omega
    have ih2 := F_depth0 l hl lt pre (pre ++ post lt).length hle hg.1 h4
    have hdl : deep lt ≤ 100 ∧ deep rt ≤ 100 := by
      have : ∀ t : Tr, deep t ≤ (post t).length := by
        intro t
        induction t with
        | leaf n => simp [deep, post]
        | no t ih => simp [deep, post]; omega
        | two b l r ihl ihr => simp [deep, post]; omega
      have h5 := this lt
      have h6 := this rt
      have h7 := congrArg List.length h2
      simp at h7; omega
    have v1 := V_parts0 (if b = true then 5 else 4)
    have e3 : parts (if b = true then 5 else 4) = 2 := by cases b <;> rfl
    rw [e3] at v1
    have z1 : ((e : Int) - 1) = ((e - 1 : Nat) : Int) := by omega
    rw [z1]
    have hp1 : 1 ≤ (pre ++ post lt).length := by have := post_pos lt; simp; omega
    have hp2 : 1 ≤ e - 1 := by have := post_pos rt; have h6 := congrArg List.length h2; simp at h6; omega
    have w1 : IntKind.i64.wrap (((e - 1 : Nat) : Int) - 1) = ((e - 1 : Nat) : Int) - 1 := by rw [wrap_i64 _ (by omega) (by omega)]
    have w3 : IntKind.i64.wrap (((pre ++ post lt).length : Int) - 1) = ((pre ++ post lt).length : Int) - 1 := by rw [wrap_i64 _ (by omega) (by omega)]
    have w2 : IntKind.i64.wrap (((max (deep lt) (deep rt) : Nat) : Int) + 1) = (max (deep lt) (deep rt) : Nat) + 1 := by rw [wrap_i64 _ (by omega) (by omega)]
    have ihv1 := FV_of ih1
    have ihv2 := FV_of ih2
    simp only [clo] at ihv1 ihv2
    generalize (pre ++ post lt).length = q at *
    generalize e - 1 = p at *
    refine F_W T65 ?_
    simp only [c65, c65_b, Lift.start]
    cases b
    · simp only [Bool.false_eq_true, if_false] at h1 v1
      by_cases hlr : deep rt < deep lt
      · have hm : max (deep lt) (deep rt) = deep lt := by omega
        have hi : (deep rt : Int) < deep lt := by omega
        rw [hm] at w2
        repeat (first | refine W_assoc ?_ | (show W _ (.seq (.region _ _) _) _ _; refine W_reg (by simp; with_reducible rfl) ?_) | (show R _ _ _ (_ :: _) _ _ _ _; refine R_op (by simp (maxSteps := 2000000) [hlt, h1, v1, ih1, ih2, ihv1, ihv2, vb, w1, w2, w3, hlr, hi]; with_reducible rfl) ?_) | (show R _ _ _ [] _ _ _ _; refine R_nil (by simp; with_reducible rfl) ?_) | (show W _ (.seq (.cond _ _ _) _) _ _; first | refine W_ct (by first | (simp [hlt, h1, v1, ih1, ih2, ihv1, ihv2, vb, w1, w2, w3, hlr, hi]; done) | fail) ?_ | refine W_cf (by first | (simp [hlt, h1, v1, ih1, ih2, ihv1, ihv2, vb, w1, w2, w3, hlr, hi]; done) | fail) ?_) | refine W_skip ?_ | refine W_bl (c := .seq _ _) ?_ | refine W_bl (c := .region _ _) ?_ | refine W_bl (c := .cond _ _ _) ?_ | refine W_bl (c := .block _ _) ?_ | refine W_rt ?_ | refine W_ex ?_ | refine W_end ?_ | refine W_tail (a := .region _ _) ?_ | refine W_tail (a := .cond _ _ _) ?_ | refine W_tail (a := .ret) ?_ | refine W_tail (a := .exit _) ?_ | refine W_tail (a := .block _ _) ?_ | refine QB_normal ?_ | refine QB_exit ?_ | refine QB_ret ?_ | refine QB_out (by decide) ?_ | refine QL_next ?_ | refine QL_exit ?_ | refine QL_ret ?_ | refine QL_out (by decide) ?_ | (show Fin _ _ .ret _; exact Fin_ret (by first | (simp [c65, deep, hm]; done) | (simp [c65, deep, hm]; with_reducible rfl))) | (show Fin _ _ .normal _; exact Fin_end (by first | (simp [c65, deep, hm]; done) | (simp [c65, deep, hm]; with_reducible rfl))))
      · have hm : max (deep lt) (deep rt) = deep rt := by omega
        have hi : ¬ (deep rt : Int) < deep lt := by omega
        rw [hm] at w2
        repeat (first | refine W_assoc ?_ | (show W _ (.seq (.region _ _) _) _ _; refine W_reg (by simp; with_reducible rfl) ?_) | (show R _ _ _ (_ :: _) _ _ _ _; refine R_op (by simp (maxSteps := 2000000) [hlt, h1, v1, ih1, ih2, ihv1, ihv2, vb, w1, w2, w3, hlr, hi]; with_reducible rfl) ?_) | (show R _ _ _ [] _ _ _ _; refine R_nil (by simp; with_reducible rfl) ?_) | (show W _ (.seq (.cond _ _ _) _) _ _; first | refine W_ct (by first | (simp [hlt, h1, v1, ih1, ih2, ihv1, ihv2, vb, w1, w2, w3, hlr, hi]; done) | fail) ?_ | refine W_cf (by first | (simp [hlt, h1, v1, ih1, ih2, ihv1, ihv2, vb, w1, w2, w3, hlr, hi]; done) | fail) ?_) | refine W_skip ?_ | refine W_bl (c := .seq _ _) ?_ | refine W_bl (c := .region _ _) ?_ | refine W_bl (c := .cond _ _ _) ?_ | refine W_bl (c := .block _ _) ?_ | refine W_rt ?_ | refine W_ex ?_ | refine W_end ?_ | refine W_tail (a := .region _ _) ?_ | refine W_tail (a := .cond _ _ _) ?_ | refine W_tail (a := .ret) ?_ | refine W_tail (a := .exit _) ?_ | refine W_tail (a := .block _ _) ?_ | refine QB_normal ?_ | refine QB_exit ?_ | refine QB_ret ?_ | refine QB_out (by decide) ?_ | refine QL_next ?_ | refine QL_exit ?_ | refine QL_ret ?_ | refine QL_out (by decide) ?_ | (show Fin _ _ .ret _; exact Fin_ret (by first | (simp [c65, deep, hm]; done) | (simp [c65, deep, hm]; with_reducible rfl))) | (show Fin _ _ .normal _; exact Fin_end (by first | (simp [c65, deep, hm]; done) | (simp [c65, deep, hm]; with_reducible rfl))))
    · simp only [if_true] at h1 v1
      by_cases hlr : deep rt < deep lt
      · have hm : max (deep lt) (deep rt) = deep lt := by omega
        have hi : (deep rt : Int) < deep lt := by omega
        rw [hm] at w2
        repeat (first | refine W_assoc ?_ | (show W _ (.seq (.region _ _) _) _ _; refine W_reg (by simp; with_reducible rfl) ?_) | (show R _ _ _ (_ :: _) _ _ _ _; refine R_op (by simp (maxSteps := 2000000) [hlt, h1, v1, ih1, ih2, ihv1, ihv2, vb, w1, w2, w3, hlr, hi]; with_reducible rfl) ?_) | (show R _ _ _ [] _ _ _ _; refine R_nil (by simp; with_reducible rfl) ?_) | (show W _ (.seq (.cond _ _ _) _) _ _; first | refine W_ct (by first | (simp [hlt, h1, v1, ih1, ih2, ihv1, ihv2, vb, w1, w2, w3, hlr, hi]; done) | fail) ?_ | refine W_cf (by first | (simp [hlt, h1, v1, ih1, ih2, ihv1, ihv2, vb, w1, w2, w3, hlr, hi]; done) | fail) ?_) | refine W_skip ?_ | refine W_bl (c := .seq _ _) ?_ | refine W_bl (c := .region _ _) ?_ | refine W_bl (c := .cond _ _ _) ?_ | refine W_bl (c := .block _ _) ?_ | refine W_rt ?_ | refine W_ex ?_ | refine W_end ?_ | refine W_tail (a := .region _ _) ?_ | refine W_tail (a := .cond _ _ _) ?_ | refine W_tail (a := .ret) ?_ | refine W_tail (a := .exit _) ?_ | refine W_tail (a := .block _ _) ?_ | refine QB_normal ?_ | refine QB_exit ?_ | refine QB_ret ?_ | refine QB_out (by decide) ?_ | refine QL_next ?_ | refine QL_exit ?_ | refine QL_ret ?_ | refine QL_out (by decide) ?_ | (show Fin _ _ .ret _; exact Fin_ret (by first | (simp [c65, deep, hm]; done) | (simp [c65, deep, hm]; with_reducible rfl))) | (show Fin _ _ .normal _; exact Fin_end (by first | (simp [c65, deep, hm]; done) | (simp [c65, deep, hm]; with_reducible rfl))))
      · have hm : max (deep lt) (deep rt) = deep rt := by omega
        have hi : ¬ (deep rt : Int) < deep lt := by omega
        rw [hm] at w2
        repeat (first | refine W_assoc ?_ | (show W _ (.seq (.region _ _) _) _ _; refine W_reg (by simp; with_reducible rfl) ?_) | (show R _ _ _ (_ :: _) _ _ _ _; refine R_op (by simp (maxSteps := 2000000) [hlt, h1, v1, ih1, ih2, ihv1, ihv2, vb, w1, w2, w3, hlr, hi]; with_reducible rfl) ?_) | (show R _ _ _ [] _ _ _ _; refine R_nil (by simp; with_reducible rfl) ?_) | (show W _ (.seq (.cond _ _ _) _) _ _; first | refine W_ct (by first | (simp [hlt, h1, v1, ih1, ih2, ihv1, ihv2, vb, w1, w2, w3, hlr, hi]; done) | fail) ?_ | refine W_cf (by first | (simp [hlt, h1, v1, ih1, ih2, ihv1, ihv2, vb, w1, w2, w3, hlr, hi]; done) | fail) ?_) | refine W_skip ?_ | refine W_bl (c := .seq _ _) ?_ | refine W_bl (c := .region _ _) ?_ | refine W_bl (c := .cond _ _ _) ?_ | refine W_bl (c := .block _ _) ?_ | refine W_rt ?_ | refine W_ex ?_ | refine W_end ?_ | refine W_tail (a := .region _ _) ?_ | refine W_tail (a := .cond _ _ _) ?_ | refine W_tail (a := .ret) ?_ | refine W_tail (a := .exit _) ?_ | refine W_tail (a := .block _ _) ?_ | refine QB_normal ?_ | refine QB_exit ?_ | refine QB_ret ?_ | refine QB_out (by decide) ?_ | refine QL_next ?_ | refine QL_exit ?_ | refine QL_ret ?_ | refine QL_out (by decide) ?_ | (show Fin _ _ .ret _; exact Fin_ret (by first | (simp [c65, deep, hm]; done) | (simp [c65, deep, hm]; with_reducible rfl))) | (show Fin _ _ .normal _; exact Fin_end (by first | (simp [c65, deep, hm]; done) | (simp [c65, deep, hm]; with_reducible rfl))))

end Go.Proofs.Ytnobgooojbppbab.Need
