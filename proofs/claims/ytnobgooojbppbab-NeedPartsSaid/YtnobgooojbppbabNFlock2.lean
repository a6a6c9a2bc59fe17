/- Sets of small numbers: with, without, of, below. -/
import Derived.Test.YtnobgooojbppbabNFlock
set_option linter.all false
set_option linter.unusedSimpArgs false
set_option maxRecDepth 100000
set_option maxHeartbeats 2000000
namespace Go.Proofs.Ytnobgooojbppbab.Flock
open Go Go.RowKit Go.Proofs.Ytnobgooojbppbab.Lift Go.Proofs.Ytnobgooojbppbab.TND Go.Proofs.Ytnobgooojbppbab.Base Go.Proofs.Ytnobgooojbppbab.FlockIn

/-- With, by the document. -/
def wi (x : Nat) (k : Int) : Nat := ofN (fun j => x.testBit j || decide (k = (j : Int))) 64

theorem wi_lt (x : Nat) (k : Int) : wi x k < 18446744073709551616 := ofN64_lt _

theorem wi_out (x : Nat) (hx : x < 18446744073709551616) (k : Int) (h : ¬ (0 ≤ k ∧ k < 64)) : wi x k = x := by
  unfold wi
  rw [ofN_congr (q := fun j => x.testBit j) fun j hj => ?_]
  · exact self_bits x hx
  · have : ¬ k = (j : Int) := by omega
    simp [this]

theorem or_bit (x m : Nat) (hx : x < 18446744073709551616) (hm : m < 64) : IntKind.u64.wrap ↑(x % 2 ^ IntKind.u64.bits ||| (IntKind.u64.wrap (2 ^ min m IntKind.u64.bits) % 2 ^ IntKind.u64.bits).toNat) = ((wi x m : Nat) : Int) := by
  have hb : IntKind.u64.bits = 64 := rfl
  have h1 : min m 64 = m := by omega
  have hp := pow_lt64 m hm
  have h2 : IntKind.u64.wrap ((2 : Int) ^ m) = ((2 ^ m : Nat) : Int) := by
    rw [show ((2 : Int) ^ m) = ((2 ^ m : Nat) : Int) by simp]
    exact wrapU _ hp
  have h3 : (((2 ^ m : Nat) : Int) % 2 ^ 64).toNat = 2 ^ m := by
    generalize 2 ^ m = q at hp ⊢
    omega
  have h4 : x % 2 ^ 64 = x := by omega
  rw [hb, h1, h2, h3, h4, with_bits x m hx hm, wrapU _ (ofN64_lt _)]
  unfold wi
  congr 1
  refine ofN_congr fun j hj => ?_
  have : (m = j) ↔ ((m : Int) = (j : Int)) := by omega
  simp [this]


theorem V_with (x : Nat) (hx : x < 18446744073709551616) (k : Int) : FV (F T) 66 [.int .u64 x, .int .i64 k] = some (.int .u64 (wi x k)) := by
  have h1 := V_is k
  by_cases h : 0 ≤ k ∧ k < 64
  · obtain ⟨m, rfl⟩ := Int.eq_ofNat_of_zero_le h.1
    have hm : m < 64 := by omega
    have e1 : (decide (0 ≤ (m : Int)) && decide ((m : Int) < 64)) = true := by simp [h.1, h.2]
    rw [e1] at h1
    have hnn : ¬ (m : Int) < 0 := by omega
    refine FV_W T66 (r := ?r1) ?h1 ?v1
    case h1 =>
      simp only [c66, c66_b, Lift.start]
      repeat (first | refine W_assoc ?_ | (show W _ (.seq (.region _ _) _) _ _; refine W_reg (by simp; with_reducible rfl) ?_) | (show R _ _ _ (_ :: _) _ _ _ _; refine R_op (by simp (maxSteps := 2000000) [h1, hnn]; with_reducible rfl) ?_) | (show R _ _ _ [] _ _ _ _; refine R_nil (by simp; with_reducible rfl) ?_) | (show W _ (.seq (.cond _ _ _) _) _ _; first | refine W_ct (by first | (simp [h1, hnn]; done) | fail) ?_ | refine W_cf (by first | (simp [h1, hnn]; done) | fail) ?_) | refine W_skip ?_ | refine W_bl (c := .seq _ _) ?_ | refine W_bl (c := .region _ _) ?_ | refine W_bl (c := .cond _ _ _) ?_ | refine W_bl (c := .block _ _) ?_ | refine W_rt ?_ | refine W_ex ?_ | refine W_end ?_ | refine W_tail (a := .region _ _) ?_ | refine W_tail (a := .cond _ _ _) ?_ | refine W_tail (a := .ret) ?_ | refine W_tail (a := .exit _) ?_ | refine W_tail (a := .block _ _) ?_ | refine QB_normal ?_ | refine QB_exit ?_ | refine QB_ret ?_ | refine QB_out (by decide) ?_ | refine QL_next ?_ | refine QL_exit ?_ | refine QL_ret ?_ | refine QL_out (by decide) ?_ | (show Fin _ _ .ret _; exact Fin_ret (by first | (simp [c66]; done) | (simp [c66]; with_reducible rfl))) | (show Fin _ _ .normal _; exact Fin_end (by first | (simp [c66]; done) | (simp [c66]; with_reducible rfl))))
    case v1 =>
      simp
      exact or_bit x m hx hm
  · have e1 : (decide (0 ≤ k) && decide (k < 64)) = false := by
      by_cases h2 : 0 ≤ k
      · have h3 : ¬ k < 64 := fun h3 => h ⟨h2, h3⟩
        simp [h3]
      · simp [h2]
    rw [e1] at h1
    rw [wi_out x hx k h]
    refine FV_W T66 (r := ?r3) ?h3 ?v3
    case h3 =>
      simp only [c66, c66_b, Lift.start]
      repeat (first | refine W_assoc ?_ | (show W _ (.seq (.region _ _) _) _ _; refine W_reg (by simp; with_reducible rfl) ?_) | (show R _ _ _ (_ :: _) _ _ _ _; refine R_op (by simp (maxSteps := 2000000) [h1]; with_reducible rfl) ?_) | (show R _ _ _ [] _ _ _ _; refine R_nil (by simp; with_reducible rfl) ?_) | (show W _ (.seq (.cond _ _ _) _) _ _; first | refine W_ct (by first | (simp [h1]; done) | fail) ?_ | refine W_cf (by first | (simp [h1]; done) | fail) ?_) | refine W_skip ?_ | refine W_bl (c := .seq _ _) ?_ | refine W_bl (c := .region _ _) ?_ | refine W_bl (c := .cond _ _ _) ?_ | refine W_bl (c := .block _ _) ?_ | refine W_rt ?_ | refine W_ex ?_ | refine W_end ?_ | refine W_tail (a := .region _ _) ?_ | refine W_tail (a := .cond _ _ _) ?_ | refine W_tail (a := .ret) ?_ | refine W_tail (a := .exit _) ?_ | refine W_tail (a := .block _ _) ?_ | refine QB_normal ?_ | refine QB_exit ?_ | refine QB_ret ?_ | refine QB_out (by decide) ?_ | refine QL_next ?_ | refine QL_exit ?_ | refine QL_ret ?_ | refine QL_out (by decide) ?_ | (show Fin _ _ .ret _; exact Fin_ret (by first | (simp [c66]; done) | (simp [c66]; with_reducible rfl))) | (show Fin _ _ .normal _; exact Fin_end (by first | (simp [c66]; done) | (simp [c66]; with_reducible rfl))))
    case v3 => simp


end Go.Proofs.Ytnobgooojbppbab.Flock
