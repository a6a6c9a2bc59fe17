/- What the code of the number and of the text comes to: bytes before, then the digits to the base 256. -/
import Derived.Test.YtleeafkkgepblaaTPB
import Derived.Test.YtleeafkkgepblaaBase
import Derived.Test.YtleeafkkgepblaaOctPure
set_option linter.all false
set_option linter.unusedSimpArgs false
set_option maxRecDepth 100000
set_option maxHeartbeats 4000000
namespace Go.Proofs.Ytleeafkkgepblaa.Oct
open Go Go.RowKit Go.Proofs.Ytleeafkkgepblaa.Lift Go.Proofs.Ytleeafkkgepblaa.TPB Go.Proofs.Ytleeafkkgepblaa.Base

theorem width_loop (k : Nat) : ∀ (n : Nat) (w : Int) (st : ASt), n < 256 ^ (k + 1) → n < 72057594037927936 → 0 ≤ w → w + k < 1000 → canon [0, 3] st = ⟨[.int .i64 n, .top, .top, .int .i64 w, .top, .top, .top, .top, .top, .top, .top], [], 0, 0⟩ →
    W T c48_k0 st (Lift.Fin c48 (.int .i64 (w + (dig n).length - 1), [])) := by
  induction k with
  | zero =>
    intro n w st h1 hb h2 h3 hc
    have h : ¬ (256 : Int) ≤ n := by omega
    have e : w + ((dig n).length : Int) - 1 = w := by rw [dig_small (by omega)]; simp
    rw [e]
    unfold c48_k0
    refine W_round hc ?_
    unfold c48_l0
    repeat (first | refine W_assoc ?_ | (show W _ (.seq (.region _ _) _) _ _; refine W_reg (by simp; with_reducible rfl) ?_) | (show R _ _ _ (_ :: _) _ _ _ _; refine R_op (by simp (maxSteps := 2000000) [h]; with_reducible rfl) ?_) | (show R _ _ _ [] _ _ _ _; refine R_nil (by simp; with_reducible rfl) ?_) | (show W _ (.seq (.cond _ _ _) _) _ _; first | refine W_ct (by first | (simp [h]; done) | fail) ?_ | refine W_cf (by first | (simp [h]; done) | fail) ?_) | refine W_skip ?_ | refine W_bl (c := .seq _ _) ?_ | refine W_bl (c := .region _ _) ?_ | refine W_bl (c := .cond _ _ _) ?_ | refine W_bl (c := .block _ _) ?_ | refine W_rt ?_ | refine W_ex ?_ | refine W_end ?_ | refine W_tail (a := .region _ _) ?_ | refine W_tail (a := .cond _ _ _) ?_ | refine W_tail (a := .ret) ?_ | refine W_tail (a := .exit _) ?_ | refine W_tail (a := .block _ _) ?_ | refine QB_normal ?_ | refine QB_exit ?_ | refine QB_ret ?_ | refine QB_out (by decide) ?_ | refine QL_next ?_ | refine QL_exit ?_ | refine QL_ret ?_ | refine QL_out (by decide) ?_ | (show Fin _ _ .ret _; exact Fin_ret (by first | (simp [c48]; done) | (simp [c48]; with_reducible rfl))) | (show Fin _ _ .normal _; exact Fin_end (by first | (simp [c48]; done) | (simp [c48]; with_reducible rfl))))
  | succ k ih =>
    intro n w st h1 hb h2 h3 hc
    by_cases h : n < 256
    · have h' : ¬ (256 : Int) ≤ n := by omega
      have e : w + ((dig n).length : Int) - 1 = w := by rw [dig_small (by omega)]; simp
      rw [e]
      unfold c48_k0
      refine W_round hc ?_
      unfold c48_l0
      repeat (first | refine W_assoc ?_ | (show W _ (.seq (.region _ _) _) _ _; refine W_reg (by simp; with_reducible rfl) ?_) | (show R _ _ _ (_ :: _) _ _ _ _; refine R_op (by simp (maxSteps := 2000000) [h']; with_reducible rfl) ?_) | (show R _ _ _ [] _ _ _ _; refine R_nil (by simp; with_reducible rfl) ?_) | (show W _ (.seq (.cond _ _ _) _) _ _; first | refine W_ct (by first | (simp [h']; done) | fail) ?_ | refine W_cf (by first | (simp [h']; done) | fail) ?_) | refine W_skip ?_ | refine W_bl (c := .seq _ _) ?_ | refine W_bl (c := .region _ _) ?_ | refine W_bl (c := .cond _ _ _) ?_ | refine W_bl (c := .block _ _) ?_ | refine W_rt ?_ | refine W_ex ?_ | refine W_end ?_ | refine W_tail (a := .region _ _) ?_ | refine W_tail (a := .cond _ _ _) ?_ | refine W_tail (a := .ret) ?_ | refine W_tail (a := .exit _) ?_ | refine W_tail (a := .block _ _) ?_ | refine QB_normal ?_ | refine QB_exit ?_ | refine QB_ret ?_ | refine QB_out (by decide) ?_ | refine QL_next ?_ | refine QL_exit ?_ | refine QL_ret ?_ | refine QL_out (by decide) ?_ | (show Fin _ _ .ret _; exact Fin_ret (by first | (simp [c48]; done) | (simp [c48]; with_reducible rfl))) | (show Fin _ _ .normal _; exact Fin_end (by first | (simp [c48]; done) | (simp [c48]; with_reducible rfl))))
    · have h' : (256 : Int) ≤ n := by omega
      have e1 : IntKind.i64.wrap ((n : Int) / 256) = ((n / 256 : Nat) : Int) := by rw [wrap_id _ (by omega) (by omega)]; omega
      have e2 : IntKind.i64.wrap (w + 1) = w + 1 := wrap_id _ (by omega) (by omega)
      have e3 : w + ((dig n).length : Int) - 1 = (w + 1) + ((dig (n / 256)).length : Int) - 1 := by rw [dig_step h]; simp; omega
      rw [e3]
      generalize hq : n / 256 = q at *
      unfold c48_k0
      refine W_round hc ?_
      unfold c48_l0
      repeat (first | refine W_assoc ?_ | (show W _ (.seq (.region _ _) _) _ _; refine W_reg (by simp; with_reducible rfl) ?_) | (show R _ _ _ (_ :: _) _ _ _ _; refine R_op (by simp (maxSteps := 2000000) [h', e1, e2]; with_reducible rfl) ?_) | (show R _ _ _ [] _ _ _ _; refine R_nil (by simp; with_reducible rfl) ?_) | (show W _ (.seq (.cond _ _ _) _) _ _; first | refine W_ct (by first | (simp [h', e1, e2]; done) | fail) ?_ | refine W_cf (by first | (simp [h', e1, e2]; done) | fail) ?_) | refine W_skip ?_ | refine W_bl (c := .seq _ _) ?_ | refine W_bl (c := .region _ _) ?_ | refine W_bl (c := .cond _ _ _) ?_ | refine W_bl (c := .block _ _) ?_ | refine W_rt ?_ | refine W_ex ?_ | refine W_end ?_ | refine W_tail (a := .region _ _) ?_ | refine W_tail (a := .cond _ _ _) ?_ | refine W_tail (a := .ret) ?_ | refine W_tail (a := .exit _) ?_ | refine W_tail (a := .block _ _) ?_ | refine QB_normal ?_ | refine QB_exit ?_ | refine QB_ret ?_ | refine QB_out (by decide) ?_ | refine QL_next ?_ | refine QL_exit ?_ | refine QL_ret ?_ | refine QL_out (by decide) ?_ | (show Fin _ _ .ret _; exact Fin_ret (by first | (simp; done) | (simp; with_reducible rfl))) | (show Fin _ _ .normal _; exact Fin_end (by first | (simp; done) | (simp; with_reducible rfl))))
      refine ih q (w + 1) _ ?_ ?_ ?_ ?_ ?_
      · rw [Nat.pow_succ] at h1; omega
      · omega
      · omega
      · omega
      · simp

theorem F_width (n : Nat) (h : n < 72057594037927936) : F T 48 [.int .i64 n] [] = some (.int .i64 (dig n).length, []) := by
  refine F_W T48 ?_
  simp only [c48, c48_b, Lift.start]
  repeat (first | refine W_assoc ?_ | (show W _ (.seq (.region _ _) _) _ _; refine W_reg (by simp; with_reducible rfl) ?_) | (show R _ _ _ (_ :: _) _ _ _ _; refine R_op (by simp (maxSteps := 2000000); with_reducible rfl) ?_) | (show R _ _ _ [] _ _ _ _; refine R_nil (by simp; with_reducible rfl) ?_) | (show W _ (.seq (.cond _ _ _) _) _ _; first | refine W_ct (by first | (simp; done) | fail) ?_ | refine W_cf (by first | (simp; done) | fail) ?_) | refine W_skip ?_ | refine W_bl (c := .seq _ _) ?_ | refine W_bl (c := .region _ _) ?_ | refine W_bl (c := .cond _ _ _) ?_ | refine W_bl (c := .block _ _) ?_ | refine W_rt ?_ | refine W_ex ?_ | refine W_end ?_ | refine W_tail (a := .region _ _) ?_ | refine W_tail (a := .cond _ _ _) ?_ | refine W_tail (a := .ret) ?_ | refine W_tail (a := .exit _) ?_ | refine W_tail (a := .block _ _) ?_ | refine QB_normal ?_ | refine QB_exit ?_ | refine QB_ret ?_ | refine QB_out (by decide) ?_ | refine QL_next ?_ | refine QL_exit ?_ | refine QL_ret ?_ | refine QL_out (by decide) ?_ | (show Fin _ _ .ret _; exact Fin_ret (by first | (simp; done) | (simp; with_reducible rfl))) | (show Fin _ _ .normal _; exact Fin_end (by first | (simp; done) | (simp; with_reducible rfl))))
  have := width_loop 6 n 1
  rw [show (1 : Int) + ((dig n).length : Int) - 1 = ((dig n).length : Int) by omega] at this
  refine this _ ?_ ?_ ?_ ?_ ?_
  · omega
  · omega
  · omega
  · omega
  · simp

theorem V_width (n : Nat) (h : n < 72057594037927936) : FV (F T) 48 [.int .i64 n] = some (.int .i64 (dig n).length) := by
  simpa using FV_of (F_width n h)

theorem num_loop (m : Nat) (hm : m < 72057594037927936) (k : Nat) : ∀ (i : Nat) (l : List Int) (st : ASt), i + k = (dig m).length → l.length + k < 3000000 → canon [1, 5, 6, 32, 33] st = ⟨[.top, .int .i64 m, .top, .top, .top, .own 0 0 l.length, .int .i64 (dig m).length, .top, .top, .top, .top, .top, .top, .top, .top, .top, .top, .top, .top, .top, .top, .top, .top, .top, .top, .top, .top, .top, .top, .top, .top, .top, .int .i64 (dig m).length, .int .i64 i, .top, .top, .top, .top, .top, .top, .top, .top, .top, .top, .top, .top, .top, .top, .top], [(0, ⟨5, 1, false, enc (eInt .u8) l, 0⟩)], 1, 0⟩ →
    W T c28_k0 st (Lift.Fin c28 (.own 0 0 (l ++ (dig m).drop i).length, [⟨5, 1, false, enc (eInt .u8) (l ++ (dig m).drop i), 0⟩])) := by
  have hw := dig_le m hm
  induction k with
  | zero =>
    intro i l st h1 h2 hc
    obtain rfl : i = (dig m).length := by omega
    have e1 : (dig m).drop (dig m).length = [] := List.drop_of_length_le (by omega)
    have hlt : ¬ ((dig m).length : Int) < (dig m).length := by omega
    rw [e1, List.append_nil]
    generalize (dig m).length = d at *
    unfold c28_k0
    refine W_round hc ?_
    unfold c28_l0
    repeat (first | refine W_assoc ?_ | (show W _ (.seq (.region _ _) _) _ _; refine W_reg (by simp; with_reducible rfl) ?_) | (show R _ _ _ (_ :: _) _ _ _ _; refine R_op (by simp (maxSteps := 2000000) [hlt]; with_reducible rfl) ?_) | (show R _ _ _ [] _ _ _ _; refine R_nil (by simp; with_reducible rfl) ?_) | (show W _ (.seq (.cond _ _ _) _) _ _; first | refine W_ct (by first | (simp [hlt]; done) | fail) ?_ | refine W_cf (by first | (simp [hlt]; done) | fail) ?_) | refine W_skip ?_ | refine W_bl (c := .seq _ _) ?_ | refine W_bl (c := .region _ _) ?_ | refine W_bl (c := .cond _ _ _) ?_ | refine W_bl (c := .block _ _) ?_ | refine W_rt ?_ | refine W_ex ?_ | refine W_end ?_ | refine W_tail (a := .region _ _) ?_ | refine W_tail (a := .cond _ _ _) ?_ | refine W_tail (a := .ret) ?_ | refine W_tail (a := .exit _) ?_ | refine W_tail (a := .block _ _) ?_ | refine QB_normal ?_ | refine QB_exit ?_ | refine QB_ret ?_ | refine QB_out (by decide) ?_ | refine QL_next ?_ | refine QL_exit ?_ | refine QL_ret ?_ | refine QL_out (by decide) ?_ | (show Fin _ _ .ret _; exact Fin_ret (by first | (simp [c28]; done) | (simp [c28]; with_reducible rfl))) | (show Fin _ _ .normal _; exact Fin_end (by first | (simp [c28]; done) | (simp [c28]; with_reducible rfl))))
  | succ k ih =>
    intro i l st h1 h2 hc
    have hi : i < (dig m).length := by omega
    have hi' : (i : Int) < (dig m).length := by omega
    have e1 : IntKind.i64.wrap ((dig m).length - 1) = (dig m).length - 1 := wrap_id _ (by omega) (by omega)
    have e2 : IntKind.i64.wrap ((dig m).length - 1 - i) = (dig m).length - 1 - i := wrap_id _ (by omega) (by omega)
    have e3 : IntKind.i64.wrap (8 * ((dig m).length - 1 - i)) = 8 * ((dig m).length - 1 - i) := wrap_id _ (by omega) (by omega)
    have e4 : IntKind.i64.wrap ((i : Int) + 1) = (i : Int) + 1 := wrap_id _ (by omega) (by omega)
    have e5 : ¬ 8 * (((dig m).length : Int) - 1 - i) < 0 := by omega
    have e6 : IntKind.u8.wrap ((m : Int).fdiv (2 ^ (min (8 * (((dig m).length : Int) - 1 - i)).toNat IntKind.i64.bits))) = (dig m)[i] := by
      have := shr_pow m ((dig m).length - 1 - i) (by omega)
      rw [show (((dig m).length - 1 - i : Nat) : Int) = ((dig m).length : Int) - 1 - i from by omega] at this
      rw [show IntKind.i64.bits = 64 from rfl, this, wrap8 _ (Int.natCast_nonneg _), dig_get m i hi]
      generalize m / 256 ^ ((dig m).length - 1 - i) = q
      omega
    have e8 : ¬ (l.length + 1 ≤ l.length ∧ 0 < l.length) := by omega
    have e9 : l.length + 1 ≤ 140737488355328 := by omega
    have ed : (dig m).drop i = (dig m)[i] :: (dig m).drop (i + 1) := List.drop_eq_getElem_cons hi
    have ih' := ih (i + 1) (l ++ [(dig m)[i]])
    rw [ed]
    rw [List.append_assoc, List.cons_append, List.nil_append] at ih'
    generalize (dig m)[i] = x at *
    generalize (dig m).drop (i + 1) = y at *
    generalize (dig m).length = d at *
    unfold c28_k0
    refine W_round hc ?_
    unfold c28_l0
    repeat (first | refine W_assoc ?_ | (show W _ (.seq (.region _ _) _) _ _; refine W_reg (by simp; with_reducible rfl) ?_) | (show R _ _ _ (_ :: _) _ _ _ _; refine R_op (by simp (maxSteps := 2000000) [hi, hi', e1, e2, e3, e4, e5, e6, e8, e9]; with_reducible rfl) ?_) | (show R _ _ _ [] _ _ _ _; refine R_nil (by simp; with_reducible rfl) ?_) | (show W _ (.seq (.cond _ _ _) _) _ _; first | refine W_ct (by first | (simp [hi, hi', e1, e2, e3, e4, e5, e6, e8, e9]; done) | fail) ?_ | refine W_cf (by first | (simp [hi, hi', e1, e2, e3, e4, e5, e6, e8, e9]; done) | fail) ?_) | refine W_skip ?_ | refine W_bl (c := .seq _ _) ?_ | refine W_bl (c := .region _ _) ?_ | refine W_bl (c := .cond _ _ _) ?_ | refine W_bl (c := .block _ _) ?_ | refine W_rt ?_ | refine W_ex ?_ | refine W_end ?_ | refine W_tail (a := .region _ _) ?_ | refine W_tail (a := .cond _ _ _) ?_ | refine W_tail (a := .ret) ?_ | refine W_tail (a := .exit _) ?_ | refine W_tail (a := .block _ _) ?_ | refine QB_normal ?_ | refine QB_exit ?_ | refine QB_ret ?_ | refine QB_out (by decide) ?_ | refine QL_next ?_ | refine QL_exit ?_ | refine QL_ret ?_ | refine QL_out (by decide) ?_ | (show Fin _ _ .ret _; exact Fin_ret (by first | (simp; done) | (simp; with_reducible rfl))) | (show Fin _ _ .normal _; exact Fin_end (by first | (simp; done) | (simp; with_reducible rfl))))
    refine ih' _ ?_ ?_ ?_
    · omega
    · simp; omega
    · simp

theorem F_Num (z : Nat) (b : Bool) (l : List Int) (n : Int) (hz : z = 1 ∨ l = []) (hl : l.length ≤ 1000000) : F T 28 [.ro z (enc (eInt .u8) l) b, .int .i64 n] [] = some (.own 0 0 (l ++ numB (clampN n)).length, [⟨5, 1, false, enc (eInt .u8) (l ++ numB (clampN n)), 0⟩]) := by
  have hcl : (if 72057594037927935 < (if n < 0 then 0 else n) then 72057594037927935 else (if n < 0 then 0 else n)) = (clampN n : Int) := by simp only [clampN]; split <;> split <;> omega
  have hm := clampN_lt n
  generalize clampN n = m at hcl hm ⊢
  have e0 : IntKind.i64.wrap ((l.length : Int) + 8) = (l.length : Int) + 8 := wrap_id _ (by omega) (by omega)
  have e1 : (0 : Int) ≤ (l.length : Int) + 8 := by omega
  have e2 : (l.length : Int) + 8 ≤ 140737488355328 := by omega
  have e2' : ((l.length : Int) + 8).toNat ≤ 140737488355328 := by omega
  have e3 : l.length ≤ 140737488355328 := by omega
  have e4 : l.length + 1 ≤ 140737488355328 := by omega
  have e5 : ¬ (l.length + 1 ≤ l.length ∧ 0 < l.length) := by omega
  have e0' : IntKind.i64.wrap 8 = 8 := rfl
  by_cases h3 : m < 248
  · have h4 : IntKind.u8.wrap (m : Int) = m := by rw [wrap8 _ (by omega)]; omega
    have h3' : (m : Int) < 248 := by omega
    have e6 : numB m = [(m : Int)] := by rw [numB, if_pos h3]
    rw [e6]
    refine F_W T28 ?_
    simp only [c28, c28_b, Lift.start]
    by_cases hn : l = []
    · subst hn
      cases b
      · repeat (first | refine W_assoc ?_ | (show W _ (.seq (.region _ _) _) _ _; refine W_reg (by simp; with_reducible rfl) ?_) | (show R _ _ _ (_ :: _) _ _ _ _; refine R_op (by simp (maxSteps := 2000000) [hcl, h3', h4, e0']; with_reducible rfl) ?_) | (show R _ _ _ [] _ _ _ _; refine R_nil (by simp; with_reducible rfl) ?_) | (show W _ (.seq (.cond _ _ _) _) _ _; first | refine W_ct (by first | (simp [hcl, h3', h4, e0']; done) | fail) ?_ | refine W_cf (by first | (simp [hcl, h3', h4, e0']; done) | fail) ?_) | refine W_skip ?_ | refine W_bl (c := .seq _ _) ?_ | refine W_bl (c := .region _ _) ?_ | refine W_bl (c := .cond _ _ _) ?_ | refine W_bl (c := .block _ _) ?_ | refine W_rt ?_ | refine W_ex ?_ | refine W_end ?_ | refine W_tail (a := .region _ _) ?_ | refine W_tail (a := .cond _ _ _) ?_ | refine W_tail (a := .ret) ?_ | refine W_tail (a := .exit _) ?_ | refine W_tail (a := .block _ _) ?_ | refine QB_normal ?_ | refine QB_exit ?_ | refine QB_ret ?_ | refine QB_out (by decide) ?_ | refine QL_next ?_ | refine QL_exit ?_ | refine QL_ret ?_ | refine QL_out (by decide) ?_ | (show Fin _ _ .ret _; exact Fin_ret (by first | (simp [c28]; done) | (simp [c28]; with_reducible rfl))) | (show Fin _ _ .normal _; exact Fin_end (by first | (simp [c28]; done) | (simp [c28]; with_reducible rfl))))
      · repeat (first | refine W_assoc ?_ | (show W _ (.seq (.region _ _) _) _ _; refine W_reg (by simp; with_reducible rfl) ?_) | (show R _ _ _ (_ :: _) _ _ _ _; refine R_op (by simp (maxSteps := 2000000) [hcl, h3', h4, e0']; with_reducible rfl) ?_) | (show R _ _ _ [] _ _ _ _; refine R_nil (by simp; with_reducible rfl) ?_) | (show W _ (.seq (.cond _ _ _) _) _ _; first | refine W_ct (by first | (simp [hcl, h3', h4, e0']; done) | fail) ?_ | refine W_cf (by first | (simp [hcl, h3', h4, e0']; done) | fail) ?_) | refine W_skip ?_ | refine W_bl (c := .seq _ _) ?_ | refine W_bl (c := .region _ _) ?_ | refine W_bl (c := .cond _ _ _) ?_ | refine W_bl (c := .block _ _) ?_ | refine W_rt ?_ | refine W_ex ?_ | refine W_end ?_ | refine W_tail (a := .region _ _) ?_ | refine W_tail (a := .cond _ _ _) ?_ | refine W_tail (a := .ret) ?_ | refine W_tail (a := .exit _) ?_ | refine W_tail (a := .block _ _) ?_ | refine QB_normal ?_ | refine QB_exit ?_ | refine QB_ret ?_ | refine QB_out (by decide) ?_ | refine QL_next ?_ | refine QL_exit ?_ | refine QL_ret ?_ | refine QL_out (by decide) ?_ | (show Fin _ _ .ret _; exact Fin_ret (by first | (simp [c28]; done) | (simp [c28]; with_reducible rfl))) | (show Fin _ _ .normal _; exact Fin_end (by first | (simp [c28]; done) | (simp [c28]; with_reducible rfl))))
    · obtain rfl : z = 1 := hz.resolve_right hn
      have hp : 0 < l.length := List.length_pos_iff.2 hn
      repeat (first | refine W_assoc ?_ | (show W _ (.seq (.region _ _) _) _ _; refine W_reg (by simp; with_reducible rfl) ?_) | (show R _ _ _ (_ :: _) _ _ _ _; refine R_op (by simp (maxSteps := 2000000) [hcl, h3', h4, e0, e1, e2, e2', e3, e4, e5, hn]; with_reducible rfl) ?_) | (show R _ _ _ [] _ _ _ _; refine R_nil (by simp; with_reducible rfl) ?_) | (show W _ (.seq (.cond _ _ _) _) _ _; first | refine W_ct (by first | (simp [hcl, h3', h4, e0, e1, e2, e2', e3, e4, e5, hn]; done) | fail) ?_ | refine W_cf (by first | (simp [hcl, h3', h4, e0, e1, e2, e2', e3, e4, e5, hn]; done) | fail) ?_) | refine W_skip ?_ | refine W_bl (c := .seq _ _) ?_ | refine W_bl (c := .region _ _) ?_ | refine W_bl (c := .cond _ _ _) ?_ | refine W_bl (c := .block _ _) ?_ | refine W_rt ?_ | refine W_ex ?_ | refine W_end ?_ | refine W_tail (a := .region _ _) ?_ | refine W_tail (a := .cond _ _ _) ?_ | refine W_tail (a := .ret) ?_ | refine W_tail (a := .exit _) ?_ | refine W_tail (a := .block _ _) ?_ | refine QB_normal ?_ | refine QB_exit ?_ | refine QB_ret ?_ | refine QB_out (by decide) ?_ | refine QL_next ?_ | refine QL_exit ?_ | refine QL_ret ?_ | refine QL_out (by decide) ?_ | (show Fin _ _ .ret _; exact Fin_ret (by first | (simp [c28]; done) | (simp [c28]; with_reducible rfl))) | (show Fin _ _ .normal _; exact Fin_end (by first | (simp [c28]; done) | (simp [c28]; with_reducible rfl))))
  · have h3' : ¬ (m : Int) < 248 := by omega
    have hd := dig_le m hm
    have hF := V_width m hm
    have f1 : IntKind.i64.wrap (247 + (dig m).length) = 247 + (dig m).length := wrap_id _ (by omega) (by omega)
    have f2 : IntKind.u8.wrap (247 + (dig m).length) = 247 + (dig m).length := by rw [wrap8 _ (by omega)]; omega
    have e6 : numB m = (247 + ((dig m).length : Int)) :: dig m := by rw [numB, if_neg h3]
    rw [e6]
    have hL := num_loop m hm (dig m).length 0 (l ++ [247 + ((dig m).length : Int)])
    rw [List.drop_zero, List.append_assoc, List.cons_append, List.nil_append] at hL
    refine F_W T28 ?_
    simp only [c28, c28_b, Lift.start]
    by_cases hn : l = []
    · subst hn
      cases b
      · repeat (first | refine W_assoc ?_ | (show W _ (.seq (.region _ _) _) _ _; refine W_reg (by simp; with_reducible rfl) ?_) | (show R _ _ _ (_ :: _) _ _ _ _; refine R_op (by simp (maxSteps := 2000000) [hcl, h3', e0', hF, f1, f2]; with_reducible rfl) ?_) | (show R _ _ _ [] _ _ _ _; refine R_nil (by simp; with_reducible rfl) ?_) | (show W _ (.seq (.cond _ _ _) _) _ _; first | refine W_ct (by first | (simp [hcl, h3', e0', hF, f1, f2]; done) | fail) ?_ | refine W_cf (by first | (simp [hcl, h3', e0', hF, f1, f2]; done) | fail) ?_) | refine W_skip ?_ | refine W_bl (c := .seq _ _) ?_ | refine W_bl (c := .region _ _) ?_ | refine W_bl (c := .cond _ _ _) ?_ | refine W_bl (c := .block _ _) ?_ | refine W_rt ?_ | refine W_ex ?_ | refine W_end ?_ | refine W_tail (a := .region _ _) ?_ | refine W_tail (a := .cond _ _ _) ?_ | refine W_tail (a := .ret) ?_ | refine W_tail (a := .exit _) ?_ | refine W_tail (a := .block _ _) ?_ | refine QB_normal ?_ | refine QB_exit ?_ | refine QB_ret ?_ | refine QB_out (by decide) ?_ | refine QL_next ?_ | refine QL_exit ?_ | refine QL_ret ?_ | refine QL_out (by decide) ?_ | (show Fin _ _ .ret _; exact Fin_ret (by first | (simp; done) | (simp; with_reducible rfl))) | (show Fin _ _ .normal _; exact Fin_end (by first | (simp; done) | (simp; with_reducible rfl))))
        refine hL _ ?_ ?_ ?_
        · omega
        · simp; omega
        · simp; try rfl
      · repeat (first | refine W_assoc ?_ | (show W _ (.seq (.region _ _) _) _ _; refine W_reg (by simp; with_reducible rfl) ?_) | (show R _ _ _ (_ :: _) _ _ _ _; refine R_op (by simp (maxSteps := 2000000) [hcl, h3', e0', hF, f1, f2]; with_reducible rfl) ?_) | (show R _ _ _ [] _ _ _ _; refine R_nil (by simp; with_reducible rfl) ?_) | (show W _ (.seq (.cond _ _ _) _) _ _; first | refine W_ct (by first | (simp [hcl, h3', e0', hF, f1, f2]; done) | fail) ?_ | refine W_cf (by first | (simp [hcl, h3', e0', hF, f1, f2]; done) | fail) ?_) | refine W_skip ?_ | refine W_bl (c := .seq _ _) ?_ | refine W_bl (c := .region _ _) ?_ | refine W_bl (c := .cond _ _ _) ?_ | refine W_bl (c := .block _ _) ?_ | refine W_rt ?_ | refine W_ex ?_ | refine W_end ?_ | refine W_tail (a := .region _ _) ?_ | refine W_tail (a := .cond _ _ _) ?_ | refine W_tail (a := .ret) ?_ | refine W_tail (a := .exit _) ?_ | refine W_tail (a := .block _ _) ?_ | refine QB_normal ?_ | refine QB_exit ?_ | refine QB_ret ?_ | refine QB_out (by decide) ?_ | refine QL_next ?_ | refine QL_exit ?_ | refine QL_ret ?_ | refine QL_out (by decide) ?_ | (show Fin _ _ .ret _; exact Fin_ret (by first | (simp; done) | (simp; with_reducible rfl))) | (show Fin _ _ .normal _; exact Fin_end (by first | (simp; done) | (simp; with_reducible rfl))))
        refine hL _ ?_ ?_ ?_
        · omega
        · simp; omega
        · simp; try rfl
    · obtain rfl : z = 1 := hz.resolve_right hn
      have hp : 0 < l.length := List.length_pos_iff.2 hn
      repeat (first | refine W_assoc ?_ | (show W _ (.seq (.region _ _) _) _ _; refine W_reg (by simp; with_reducible rfl) ?_) | (show R _ _ _ (_ :: _) _ _ _ _; refine R_op (by simp (maxSteps := 2000000) [hcl, h3', e0, e1, e2, e2', e3, e4, e5, hn, hF, f1, f2]; with_reducible rfl) ?_) | (show R _ _ _ [] _ _ _ _; refine R_nil (by simp; with_reducible rfl) ?_) | (show W _ (.seq (.cond _ _ _) _) _ _; first | refine W_ct (by first | (simp [hcl, h3', e0, e1, e2, e2', e3, e4, e5, hn, hF, f1, f2]; done) | fail) ?_ | refine W_cf (by first | (simp [hcl, h3', e0, e1, e2, e2', e3, e4, e5, hn, hF, f1, f2]; done) | fail) ?_) | refine W_skip ?_ | refine W_bl (c := .seq _ _) ?_ | refine W_bl (c := .region _ _) ?_ | refine W_bl (c := .cond _ _ _) ?_ | refine W_bl (c := .block _ _) ?_ | refine W_rt ?_ | refine W_ex ?_ | refine W_end ?_ | refine W_tail (a := .region _ _) ?_ | refine W_tail (a := .cond _ _ _) ?_ | refine W_tail (a := .ret) ?_ | refine W_tail (a := .exit _) ?_ | refine W_tail (a := .block _ _) ?_ | refine QB_normal ?_ | refine QB_exit ?_ | refine QB_ret ?_ | refine QB_out (by decide) ?_ | refine QL_next ?_ | refine QL_exit ?_ | refine QL_ret ?_ | refine QL_out (by decide) ?_ | (show Fin _ _ .ret _; exact Fin_ret (by first | (simp; done) | (simp; with_reducible rfl))) | (show Fin _ _ .normal _; exact Fin_end (by first | (simp; done) | (simp; with_reducible rfl))))
      refine hL _ ?_ ?_ ?_
      · omega
      · simp; omega
      · simp; try rfl

theorem F_TextB (a : AV) (l : List Int) (ha : a = .ro 1 (enc (eInt .u8) l) false ∨ a = .ro 1 [] true ∧ l = []) (s : ByteArray) (hl : l.length ≤ 100000) (hs : s.size ≤ 100000) : F T 29 [a, .str s] [] = some (.own 0 0 (l ++ numB s.size ++ sb s).length, [⟨5, 1, false, enc (eInt .u8) (l ++ numB s.size ++ sb s), 0⟩]) := by
  have hF := F_Num 1 false l s.size (.inl rfl) (by omega)
  have e : clampN s.size = s.size := by simp only [clampN]; omega
  rw [e] at hF
  have hn := numB_len s.size (by omega)
  have hp : 1 ≤ (numB s.size).length := by unfold numB; split <;> simp
  have hlen : (l ++ numB s.size).length = l.length + (numB s.size).length := by simp
  have key : ∀ r : List Int, 1 ≤ r.length → r.length ≤ 1000000 → F T 28 [.ro 1 (enc (eInt .u8) l) false, .int .i64 s.size] [] = some (.own 0 0 r.length, [⟨5, 1, false, enc (eInt .u8) r, 0⟩]) →
      F T 29 [a, .str s] [] = some (.own 0 0 (r ++ sb s).length, [⟨5, 1, false, enc (eInt .u8) (r ++ sb s), 0⟩]) := by
    intro r hr1 hr2 hF
    have e1 : r.length + s.size ≤ 140737488355328 := by omega
    refine F_W T29 ?_
    rcases ha with rfl | ⟨rfl, rfl⟩
    · simp only [c29, c29_b, Lift.start]
      by_cases h0 : s.size = 0
      · have h1 : sb s = [] := List.length_eq_zero_iff.1 (by rw [sb_length]; exact h0)
        rw [h1, List.append_nil]
        rw [h0] at hF
        rw [show ((0 : Nat) : Int) = 0 from rfl] at hF
        have e1' : r.length ≤ 140737488355328 := by omega
        repeat (first | refine W_assoc ?_ | (show W _ (.seq (.region _ _) _) _ _; refine W_reg (by simp; with_reducible rfl) ?_) | (show R _ _ _ (_ :: _) _ _ _ _; refine R_op (by simp (maxSteps := 2000000) [hF, e1', h0, bytesRow_eq, h1]; with_reducible rfl) ?_) | (show R _ _ _ [] _ _ _ _; refine R_nil (by simp; with_reducible rfl) ?_) | (show W _ (.seq (.cond _ _ _) _) _ _; first | refine W_ct (by first | (simp [hF, e1', h0, bytesRow_eq, h1]; done) | fail) ?_ | refine W_cf (by first | (simp [hF, e1', h0, bytesRow_eq, h1]; done) | fail) ?_) | refine W_skip ?_ | refine W_bl (c := .seq _ _) ?_ | refine W_bl (c := .region _ _) ?_ | refine W_bl (c := .cond _ _ _) ?_ | refine W_bl (c := .block _ _) ?_ | refine W_rt ?_ | refine W_ex ?_ | refine W_end ?_ | refine W_tail (a := .region _ _) ?_ | refine W_tail (a := .cond _ _ _) ?_ | refine W_tail (a := .ret) ?_ | refine W_tail (a := .exit _) ?_ | refine W_tail (a := .block _ _) ?_ | refine QB_normal ?_ | refine QB_exit ?_ | refine QB_ret ?_ | refine QB_out (by decide) ?_ | refine QL_next ?_ | refine QL_exit ?_ | refine QL_ret ?_ | refine QL_out (by decide) ?_ | (show Fin _ _ .ret _; exact Fin_ret (by first | (simp [c29]; done) | (simp [c29]; with_reducible rfl))) | (show Fin _ _ .normal _; exact Fin_end (by first | (simp [c29]; done) | (simp [c29]; with_reducible rfl))))
      · have e2 : ¬ (r.length + s.size ≤ r.length) := by omega
        have h0' : 0 < s.size := by omega
        repeat (first | refine W_assoc ?_ | (show W _ (.seq (.region _ _) _) _ _; refine W_reg (by simp; with_reducible rfl) ?_) | (show R _ _ _ (_ :: _) _ _ _ _; refine R_op (by simp (maxSteps := 2000000) [hF, e1, e2, h0, h0', bytesRow_eq]; with_reducible rfl) ?_) | (show R _ _ _ [] _ _ _ _; refine R_nil (by simp; with_reducible rfl) ?_) | (show W _ (.seq (.cond _ _ _) _) _ _; first | refine W_ct (by first | (simp [hF, e1, e2, h0, h0', bytesRow_eq]; done) | fail) ?_ | refine W_cf (by first | (simp [hF, e1, e2, h0, h0', bytesRow_eq]; done) | fail) ?_) | refine W_skip ?_ | refine W_bl (c := .seq _ _) ?_ | refine W_bl (c := .region _ _) ?_ | refine W_bl (c := .cond _ _ _) ?_ | refine W_bl (c := .block _ _) ?_ | refine W_rt ?_ | refine W_ex ?_ | refine W_end ?_ | refine W_tail (a := .region _ _) ?_ | refine W_tail (a := .cond _ _ _) ?_ | refine W_tail (a := .ret) ?_ | refine W_tail (a := .exit _) ?_ | refine W_tail (a := .block _ _) ?_ | refine QB_normal ?_ | refine QB_exit ?_ | refine QB_ret ?_ | refine QB_out (by decide) ?_ | refine QL_next ?_ | refine QL_exit ?_ | refine QL_ret ?_ | refine QL_out (by decide) ?_ | (show Fin _ _ .ret _; exact Fin_ret (by first | (simp [c29]; done) | (simp [c29]; with_reducible rfl))) | (show Fin _ _ .normal _; exact Fin_end (by first | (simp [c29]; done) | (simp [c29]; with_reducible rfl))))
    · simp only [c29, c29_b, Lift.start]
      simp only [enc_nil] at hF
      by_cases h0 : s.size = 0
      · have h1 : sb s = [] := List.length_eq_zero_iff.1 (by rw [sb_length]; exact h0)
        rw [h1, List.append_nil]
        rw [h0] at hF
        rw [show ((0 : Nat) : Int) = 0 from rfl] at hF
        have e1' : r.length ≤ 140737488355328 := by omega
        repeat (first | refine W_assoc ?_ | (show W _ (.seq (.region _ _) _) _ _; refine W_reg (by simp; with_reducible rfl) ?_) | (show R _ _ _ (_ :: _) _ _ _ _; refine R_op (by simp (maxSteps := 2000000) [hF, e1', h0, bytesRow_eq, h1]; with_reducible rfl) ?_) | (show R _ _ _ [] _ _ _ _; refine R_nil (by simp; with_reducible rfl) ?_) | (show W _ (.seq (.cond _ _ _) _) _ _; first | refine W_ct (by first | (simp [hF, e1', h0, bytesRow_eq, h1]; done) | fail) ?_ | refine W_cf (by first | (simp [hF, e1', h0, bytesRow_eq, h1]; done) | fail) ?_) | refine W_skip ?_ | refine W_bl (c := .seq _ _) ?_ | refine W_bl (c := .region _ _) ?_ | refine W_bl (c := .cond _ _ _) ?_ | refine W_bl (c := .block _ _) ?_ | refine W_rt ?_ | refine W_ex ?_ | refine W_end ?_ | refine W_tail (a := .region _ _) ?_ | refine W_tail (a := .cond _ _ _) ?_ | refine W_tail (a := .ret) ?_ | refine W_tail (a := .exit _) ?_ | refine W_tail (a := .block _ _) ?_ | refine QB_normal ?_ | refine QB_exit ?_ | refine QB_ret ?_ | refine QB_out (by decide) ?_ | refine QL_next ?_ | refine QL_exit ?_ | refine QL_ret ?_ | refine QL_out (by decide) ?_ | (show Fin _ _ .ret _; exact Fin_ret (by first | (simp [c29]; done) | (simp [c29]; with_reducible rfl))) | (show Fin _ _ .normal _; exact Fin_end (by first | (simp [c29]; done) | (simp [c29]; with_reducible rfl))))
      · have e2 : ¬ (r.length + s.size ≤ r.length) := by omega
        have h0' : 0 < s.size := by omega
        repeat (first | refine W_assoc ?_ | (show W _ (.seq (.region _ _) _) _ _; refine W_reg (by simp; with_reducible rfl) ?_) | (show R _ _ _ (_ :: _) _ _ _ _; refine R_op (by simp (maxSteps := 2000000) [hF, e1, e2, h0, h0', bytesRow_eq]; with_reducible rfl) ?_) | (show R _ _ _ [] _ _ _ _; refine R_nil (by simp; with_reducible rfl) ?_) | (show W _ (.seq (.cond _ _ _) _) _ _; first | refine W_ct (by first | (simp [hF, e1, e2, h0, h0', bytesRow_eq]; done) | fail) ?_ | refine W_cf (by first | (simp [hF, e1, e2, h0, h0', bytesRow_eq]; done) | fail) ?_) | refine W_skip ?_ | refine W_bl (c := .seq _ _) ?_ | refine W_bl (c := .region _ _) ?_ | refine W_bl (c := .cond _ _ _) ?_ | refine W_bl (c := .block _ _) ?_ | refine W_rt ?_ | refine W_ex ?_ | refine W_end ?_ | refine W_tail (a := .region _ _) ?_ | refine W_tail (a := .cond _ _ _) ?_ | refine W_tail (a := .ret) ?_ | refine W_tail (a := .exit _) ?_ | refine W_tail (a := .block _ _) ?_ | refine QB_normal ?_ | refine QB_exit ?_ | refine QB_ret ?_ | refine QB_out (by decide) ?_ | refine QL_next ?_ | refine QL_exit ?_ | refine QL_ret ?_ | refine QL_out (by decide) ?_ | (show Fin _ _ .ret _; exact Fin_ret (by first | (simp [c29]; done) | (simp [c29]; with_reducible rfl))) | (show Fin _ _ .normal _; exact Fin_end (by first | (simp [c29]; done) | (simp [c29]; with_reducible rfl))))
  exact key _ (by omega) (by omega) hF

theorem F_Text (l : List Int) (s : ByteArray) (hl : l.length ≤ 100000) (hs : s.size ≤ 100000) : F T 29 [.ro 1 (enc (eInt .u8) l) false, .str s] [] = some (.own 0 0 (l ++ numB s.size ++ sb s).length, [⟨5, 1, false, enc (eInt .u8) (l ++ numB s.size ++ sb s), 0⟩]) := F_TextB _ l (.inl rfl) s hl hs
theorem F_Text0 (s : ByteArray) (hs : s.size ≤ 100000) : F T 29 [.ro 1 [] true, .str s] [] = some (.own 0 0 (numB s.size ++ sb s).length, [⟨5, 1, false, enc (eInt .u8) (numB s.size ++ sb s), 0⟩]) := F_TextB _ [] (.inr ⟨rfl, rfl⟩) s (by simp) hs

end Go.Proofs.Ytleeafkkgepblaa.Oct
