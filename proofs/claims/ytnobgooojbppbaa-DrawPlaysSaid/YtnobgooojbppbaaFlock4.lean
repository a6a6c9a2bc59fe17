/- Sets of small numbers: the program's of and below, and the laws. -/
import Derived.Test.YtnobgooojbppbaaFlock3
set_option linter.all false
set_option linter.unusedSimpArgs false
set_option maxRecDepth 100000
set_option maxHeartbeats 2000000
namespace Go.Proofs.Ytnobgooojbppbaa.Flock
open Go Go.RowKit Go.Proofs.Ytnobgooojbppbaa.Lift Go.Proofs.Ytnobgooojbppbaa.TF Go.Proofs.Ytnobgooojbppbaa.Base Go.Proofs.Ytnobgooojbppbaa.FlockIn

/-- With one after the other. -/
def wis : Nat → List Int → Nat
  | x, [] => x
  | x, k :: l => wis (wi x k) l

theorem wi_bit (x : Nat) (k : Int) (j : Nat) (hj : j < 64) : (wi x k).testBit j = (x.testBit j || decide (k = (j : Int))) := by
  unfold wi; rw [ofN_bit]; simp [hj]
theorem wo_bit (x : Nat) (k : Int) (j : Nat) (hj : j < 64) : (wo x k).testBit j = (x.testBit j && !decide (k = (j : Int))) := by
  unfold wo; rw [ofN_bit]; simp [hj]

theorem wis_lt : ∀ (l : List Int) (x : Nat), x < 18446744073709551616 → wis x l < 18446744073709551616
  | [], x, h => h
  | k :: l, x, h => wis_lt l _ (wi_lt x k)

theorem wis_bit : ∀ (l : List Int) (x j : Nat), j < 64 → (wis x l).testBit j = (x.testBit j || ofL l j)
  | [], x, j, h => by simp [wis, ofL]
  | k :: l, x, j, h => by
    simp only [wis]
    rw [wis_bit l _ j h, wi_bit x k j h]
    simp [ofL, Bool.or_assoc]

theorem wis_of (l : List Int) : wis 0 l = ofN (ofL l) 64 :=
  bits_ext (wis_lt l 0 (by omega)) (ofN64_lt _) fun j hj => by rw [wis_bit l 0 j hj, ofN_bit]; simp [hj]

theorem fof_loop (l : List Int) (hl : l.length ≤ 1000000) : ∀ (n i : Nat) (x : Nat) (st : ASt), i + n = l.length → x < 18446744073709551616 → wis x (l.drop i) = wis 0 l → canon [3, 6, 7, 8] st = ⟨[.top, .top, .top, .int .u64 x, .top, .top, .ro 1 (enc (eInt .i64) l) false, .int .i64 l.length, .int .i64 i, .top, .top, .top, .top, .top, .top, .top, .top], [], 0, 0⟩ →
    W T c40_k0 st (Lift.Fin c40 (.int .u64 (ofN (ofL l) 64), [])) := by
  intro n
  induction n with
  | zero =>
    intro i x st hi hx hw0 hc
    have h1 : ¬ i < l.length := by omega
    have e1 : l.drop i = [] := List.drop_of_length_le (by omega)
    rw [e1] at hw0
    simp only [wis] at hw0
    have e2 : ofN (ofL l) 64 = x := by rw [← wis_of, hw0]
    rw [e2]
    unfold c40_k0
    refine W_round hc ?_
    unfold c40_l0
    repeat (first | refine W_assoc ?_ | (show W _ (.seq (.region _ _) _) _ _; refine W_reg (by simp; with_reducible rfl) ?_) | (show R _ _ _ (_ :: _) _ _ _ _; refine R_op (by simp (maxSteps := 2000000) [h1]; with_reducible rfl) ?_) | (show R _ _ _ [] _ _ _ _; refine R_nil (by simp; with_reducible rfl) ?_) | (show W _ (.seq (.cond _ _ _) _) _ _; first | refine W_ct (by first | (simp [h1]; done) | fail) ?_ | refine W_cf (by first | (simp [h1]; done) | fail) ?_) | refine W_skip ?_ | refine W_bl (c := .seq _ _) ?_ | refine W_bl (c := .region _ _) ?_ | refine W_bl (c := .cond _ _ _) ?_ | refine W_bl (c := .block _ _) ?_ | refine W_rt ?_ | refine W_ex ?_ | refine W_end ?_ | refine W_tail (a := .region _ _) ?_ | refine W_tail (a := .cond _ _ _) ?_ | refine W_tail (a := .ret) ?_ | refine W_tail (a := .exit _) ?_ | refine W_tail (a := .block _ _) ?_ | refine QB_normal ?_ | refine QB_exit ?_ | refine QB_ret ?_ | refine QB_out (by decide) ?_ | refine QL_next ?_ | refine QL_exit ?_ | refine QL_ret ?_ | refine QL_out (by decide) ?_ | (show Fin _ _ .ret _; exact Fin_ret (by first | (simp [c40]; done) | (simp [c40]; with_reducible rfl))) | (show Fin _ _ .normal _; exact Fin_end (by first | (simp [c40]; done) | (simp [c40]; with_reducible rfl))))
  | succ n ih =>
    intro i x st hi hx hw0 hc
    have hlt : i < l.length := by omega
    have hw := wrapS i _ hlt (by omega)
    have h1 := V_with x hx l[i]
    rw [List.drop_eq_getElem_cons hlt] at hw0
    simp only [wis] at hw0
    unfold c40_k0
    refine W_round hc ?_
    unfold c40_l0
    repeat (first | refine W_assoc ?_ | (show W _ (.seq (.region _ _) _) _ _; refine W_reg (by simp; with_reducible rfl) ?_) | (show R _ _ _ (_ :: _) _ _ _ _; refine R_op (by simp (maxSteps := 2000000) [hlt, hw, h1]; with_reducible rfl) ?_) | (show R _ _ _ [] _ _ _ _; refine R_nil (by simp; with_reducible rfl) ?_) | (show W _ (.seq (.cond _ _ _) _) _ _; first | refine W_ct (by first | (simp [hlt, hw, h1]; done) | fail) ?_ | refine W_cf (by first | (simp [hlt, hw, h1]; done) | fail) ?_) | refine W_skip ?_ | refine W_bl (c := .seq _ _) ?_ | refine W_bl (c := .region _ _) ?_ | refine W_bl (c := .cond _ _ _) ?_ | refine W_bl (c := .block _ _) ?_ | refine W_rt ?_ | refine W_ex ?_ | refine W_end ?_ | refine W_tail (a := .region _ _) ?_ | refine W_tail (a := .cond _ _ _) ?_ | refine W_tail (a := .ret) ?_ | refine W_tail (a := .exit _) ?_ | refine W_tail (a := .block _ _) ?_ | refine QB_normal ?_ | refine QB_exit ?_ | refine QB_ret ?_ | refine QB_out (by decide) ?_ | refine QL_next ?_ | refine QL_exit ?_ | refine QL_ret ?_ | refine QL_out (by decide) ?_ | (show Fin _ _ .ret _; exact Fin_ret (by first | (simp; done) | (simp; with_reducible rfl))) | (show Fin _ _ .normal _; exact Fin_end (by first | (simp; done) | (simp; with_reducible rfl))))
    refine ih (i + 1) (wi x l[i]) _ ?_ ?_ ?_ ?_
    · omega
    · exact wi_lt _ _
    · exact hw0
    · simp

theorem V_of (l : List Int) (hl : l.length ≤ 1000000) : FV (F T) 40 [.ro 1 (enc (eInt .i64) l) false] = some (.int .u64 (ofN (ofL l) 64)) := by
  have h : F T 40 [.ro 1 (enc (eInt .i64) l) false] [] = some (.int .u64 (ofN (ofL l) 64), []) := by
    refine F_W T40 ?_
    simp only [c40, c40_b, Lift.start]
    repeat (first | refine W_assoc ?_ | (show W _ (.seq (.region _ _) _) _ _; refine W_reg (by simp; with_reducible rfl) ?_) | (show R _ _ _ (_ :: _) _ _ _ _; refine R_op (by simp (maxSteps := 2000000); with_reducible rfl) ?_) | (show R _ _ _ [] _ _ _ _; refine R_nil (by simp; with_reducible rfl) ?_) | (show W _ (.seq (.cond _ _ _) _) _ _; first | refine W_ct (by first | (simp; done) | fail) ?_ | refine W_cf (by first | (simp; done) | fail) ?_) | refine W_skip ?_ | refine W_bl (c := .seq _ _) ?_ | refine W_bl (c := .region _ _) ?_ | refine W_bl (c := .cond _ _ _) ?_ | refine W_bl (c := .block _ _) ?_ | refine W_rt ?_ | refine W_ex ?_ | refine W_end ?_ | refine W_tail (a := .region _ _) ?_ | refine W_tail (a := .cond _ _ _) ?_ | refine W_tail (a := .ret) ?_ | refine W_tail (a := .exit _) ?_ | refine W_tail (a := .block _ _) ?_ | refine QB_normal ?_ | refine QB_exit ?_ | refine QB_ret ?_ | refine QB_out (by decide) ?_ | refine QL_next ?_ | refine QL_exit ?_ | refine QL_ret ?_ | refine QL_out (by decide) ?_ | (show Fin _ _ .ret _; exact Fin_ret (by first | (simp; done) | (simp; with_reducible rfl))) | (show Fin _ _ .normal _; exact Fin_end (by first | (simp; done) | (simp; with_reducible rfl))))
    refine fof_loop l hl l.length 0 0 _ ?_ ?_ ?_ ?_
    · simp
    · omega
    · simp
    · simp
  simpa using FV_of h

/-- The set of the numbers below one. -/
def be (k : Int) : Nat := ofN (fun j => decide ((j : Int) < k)) 64

theorem below_list : ∀ n, n ≤ 64 → ∀ (k : Int) (j : Nat), ofL (((List.range n).filter fun (i : Nat) => decide ((i : Int) < k)).map fun (i : Nat) => (i : Int)) j = (decide (j < n) && decide ((j : Int) < k))
  | 0, _, k, j => by simp [ofL]
  | n + 1, h, k, j => by
    have ih := below_list n (by omega) k j
    rw [List.range_succ, List.filter_append, List.map_append]
    unfold ofL at ih ⊢
    rw [List.any_append, ih]
    by_cases hn : (n : Int) < k
    · by_cases hj : j = n
      · subst hj; simp [hn]
      · have e1 : ¬ (n : Int) = (j : Int) := by omega
        have e2 : (j < n + 1) ↔ (j < n) := by omega
        simp [hn, e1, e2]
    · by_cases hj : j = n
      · subst hj; simp [hn]
      · have e2 : (j < n + 1) ↔ (j < n) := by omega
        simp [hn, e2]

theorem bel_loop (k : Int) : ∀ (n i : Nat) (r : List Int) (st : ASt), i + n = 64 → r = ((List.range i).filter fun (i : Nat) => decide ((i : Int) < k)).map (fun (i : Nat) => (i : Int)) → r.length ≤ i →
    canon [0, 3, 4] st = ⟨[.int .i64 k, .top, .top, .own 0 0 r.length, .int .i64 i, .top, .top, .top, .top, .top, .top, .top, .top, .top, .top, .top, .top, .top], [(0, ⟨3, 1, false, enc (eInt .i64) r, 0⟩)], 1, 0⟩ →
    W T c43_k0 st (Lift.Fin c43 (.int .u64 (be k), [])) := by
  intro n
  induction n with
  | zero =>
    intro i r st hi hr hrl hc
    obtain rfl : i = 64 := by omega
    have h2 := F_R06of r (by omega)
    have he : ofN (ofL r) 64 = be k := by
      unfold be
      refine ofN_congr fun j hj => ?_
      rw [hr, below_list 64 (by omega)]
      simp [hj]
    rw [he] at h2
    have h3 := FV_of h2
    simp at h3
    unfold c43_k0
    refine W_round hc ?_
    unfold c43_l0
    repeat (first | refine W_assoc ?_ | (show W _ (.seq (.region _ _) _) _ _; refine W_reg (by simp; with_reducible rfl) ?_) | (show R _ _ _ (_ :: _) _ _ _ _; refine R_op (by simp (maxSteps := 2000000) [h2, h3]; with_reducible rfl) ?_) | (show R _ _ _ [] _ _ _ _; refine R_nil (by simp; with_reducible rfl) ?_) | (show W _ (.seq (.cond _ _ _) _) _ _; first | refine W_ct (by first | (simp [h2, h3]; done) | fail) ?_ | refine W_cf (by first | (simp [h2, h3]; done) | fail) ?_) | refine W_skip ?_ | refine W_bl (c := .seq _ _) ?_ | refine W_bl (c := .region _ _) ?_ | refine W_bl (c := .cond _ _ _) ?_ | refine W_bl (c := .block _ _) ?_ | refine W_rt ?_ | refine W_ex ?_ | refine W_end ?_ | refine W_tail (a := .region _ _) ?_ | refine W_tail (a := .cond _ _ _) ?_ | refine W_tail (a := .ret) ?_ | refine W_tail (a := .exit _) ?_ | refine W_tail (a := .block _ _) ?_ | refine QB_normal ?_ | refine QB_exit ?_ | refine QB_ret ?_ | refine QB_out (by decide) ?_ | refine QL_next ?_ | refine QL_exit ?_ | refine QL_ret ?_ | refine QL_out (by decide) ?_ | (show Fin _ _ .ret _; exact Fin_ret (by first | (simp [c43]; done) | (simp [c43]; with_reducible rfl))) | (show Fin _ _ .normal _; exact Fin_end (by first | (simp [c43]; done) | (simp [c43]; with_reducible rfl))))
  | succ n ih =>
    intro i r st hi hr hrl hc
    have hlt : (i : Int) < 64 := by omega
    have hlt2 : i < 64 := by omega
    have hw := wrapS i 64 hlt2 (by omega)
    have hb : (r.length + 1) * 8 ≤ 140737488355328 := by omega
    have hb2 : r.length + 1 ≤ 140737488355328 := by omega
    unfold c43_k0
    refine W_round hc ?_
    unfold c43_l0
    by_cases hk : (i : Int) < k
    · repeat (first | refine W_assoc ?_ | (show W _ (.seq (.region _ _) _) _ _; refine W_reg (by simp; with_reducible rfl) ?_) | (show R _ _ _ (_ :: _) _ _ _ _; refine R_op (by simp (maxSteps := 2000000) [hlt, hlt2, hw, hb, hb2, hk]; with_reducible rfl) ?_) | (show R _ _ _ [] _ _ _ _; refine R_nil (by simp; with_reducible rfl) ?_) | (show W _ (.seq (.cond _ _ _) _) _ _; first | refine W_ct (by first | (simp [hlt, hlt2, hw, hb, hb2, hk]; done) | fail) ?_ | refine W_cf (by first | (simp [hlt, hlt2, hw, hb, hb2, hk]; done) | fail) ?_) | refine W_skip ?_ | refine W_bl (c := .seq _ _) ?_ | refine W_bl (c := .region _ _) ?_ | refine W_bl (c := .cond _ _ _) ?_ | refine W_bl (c := .block _ _) ?_ | refine W_rt ?_ | refine W_ex ?_ | refine W_end ?_ | refine W_tail (a := .region _ _) ?_ | refine W_tail (a := .cond _ _ _) ?_ | refine W_tail (a := .ret) ?_ | refine W_tail (a := .exit _) ?_ | refine W_tail (a := .block _ _) ?_ | refine QB_normal ?_ | refine QB_exit ?_ | refine QB_ret ?_ | refine QB_out (by decide) ?_ | refine QL_next ?_ | refine QL_exit ?_ | refine QL_ret ?_ | refine QL_out (by decide) ?_ | (show Fin _ _ .ret _; exact Fin_ret (by first | (simp; done) | (simp; with_reducible rfl))) | (show Fin _ _ .normal _; exact Fin_end (by first | (simp; done) | (simp; with_reducible rfl))))
      refine ih (i + 1) (r ++ [(i : Int)]) _ ?_ ?_ ?_ ?_
      · omega
      · rw [List.range_succ, List.filter_append, List.map_append, hr]; simp [hk]
      · simp; omega
      · simp
    · repeat (first | refine W_assoc ?_ | (show W _ (.seq (.region _ _) _) _ _; refine W_reg (by simp; with_reducible rfl) ?_) | (show R _ _ _ (_ :: _) _ _ _ _; refine R_op (by simp (maxSteps := 2000000) [hlt, hlt2, hw, hk]; with_reducible rfl) ?_) | (show R _ _ _ [] _ _ _ _; refine R_nil (by simp; with_reducible rfl) ?_) | (show W _ (.seq (.cond _ _ _) _) _ _; first | refine W_ct (by first | (simp [hlt, hlt2, hw, hk]; done) | fail) ?_ | refine W_cf (by first | (simp [hlt, hlt2, hw, hk]; done) | fail) ?_) | refine W_skip ?_ | refine W_bl (c := .seq _ _) ?_ | refine W_bl (c := .region _ _) ?_ | refine W_bl (c := .cond _ _ _) ?_ | refine W_bl (c := .block _ _) ?_ | refine W_rt ?_ | refine W_ex ?_ | refine W_end ?_ | refine W_tail (a := .region _ _) ?_ | refine W_tail (a := .cond _ _ _) ?_ | refine W_tail (a := .ret) ?_ | refine W_tail (a := .exit _) ?_ | refine W_tail (a := .block _ _) ?_ | refine QB_normal ?_ | refine QB_exit ?_ | refine QB_ret ?_ | refine QB_out (by decide) ?_ | refine QL_next ?_ | refine QL_exit ?_ | refine QL_ret ?_ | refine QL_out (by decide) ?_ | (show Fin _ _ .ret _; exact Fin_ret (by first | (simp; done) | (simp; with_reducible rfl))) | (show Fin _ _ .normal _; exact Fin_end (by first | (simp; done) | (simp; with_reducible rfl))))
      refine ih (i + 1) r _ ?_ ?_ ?_ ?_
      · omega
      · rw [List.range_succ, List.filter_append, List.map_append, hr]; simp [hk]
      · omega
      · simp

theorem V_R06below (k : Int) : FV (F T) 43 [.int .i64 k] = some (.int .u64 (be k)) := by
  have h : F T 43 [.int .i64 k] [] = some (.int .u64 (be k), []) := by
    refine F_W T43 ?_
    simp only [c43, c43_b, Lift.start]
    repeat (first | refine W_assoc ?_ | (show W _ (.seq (.region _ _) _) _ _; refine W_reg (by simp; with_reducible rfl) ?_) | (show R _ _ _ (_ :: _) _ _ _ _; refine R_op (by simp (maxSteps := 2000000); with_reducible rfl) ?_) | (show R _ _ _ [] _ _ _ _; refine R_nil (by simp; with_reducible rfl) ?_) | (show W _ (.seq (.cond _ _ _) _) _ _; first | refine W_ct (by first | (simp; done) | fail) ?_ | refine W_cf (by first | (simp; done) | fail) ?_) | refine W_skip ?_ | refine W_bl (c := .seq _ _) ?_ | refine W_bl (c := .region _ _) ?_ | refine W_bl (c := .cond _ _ _) ?_ | refine W_bl (c := .block _ _) ?_ | refine W_rt ?_ | refine W_ex ?_ | refine W_end ?_ | refine W_tail (a := .region _ _) ?_ | refine W_tail (a := .cond _ _ _) ?_ | refine W_tail (a := .ret) ?_ | refine W_tail (a := .exit _) ?_ | refine W_tail (a := .block _ _) ?_ | refine QB_normal ?_ | refine QB_exit ?_ | refine QB_ret ?_ | refine QB_out (by decide) ?_ | refine QL_next ?_ | refine QL_exit ?_ | refine QL_ret ?_ | refine QL_out (by decide) ?_ | (show Fin _ _ .ret _; exact Fin_ret (by first | (simp; done) | (simp; with_reducible rfl))) | (show Fin _ _ .normal _; exact Fin_end (by first | (simp; done) | (simp; with_reducible rfl))))
    refine bel_loop k 64 0 [] _ ?_ ?_ ?_ ?_
    · omega
    · simp
    · simp
    · simp
  simpa using FV_of h

theorem V_below (k : Int) : FV (F T) 42 [.int .i64 k] = some (.int .u64 (be k)) := by
  by_cases h1 : k ≤ 0
  · have he : be k = 0 := by
      unfold be
      refine bits_ext (ofN64_lt _) (by omega) fun j hj => ?_
      rw [ofN_bit]
      have : ¬ (j : Int) < k := by omega
      simp [this]
    rw [he]
    refine FV_W T42 (r := ?r1) ?h1 ?v1
    case h1 =>
      simp only [c42, c42_b, Lift.start]
      repeat (first | refine W_assoc ?_ | (show W _ (.seq (.region _ _) _) _ _; refine W_reg (by simp; with_reducible rfl) ?_) | (show R _ _ _ (_ :: _) _ _ _ _; refine R_op (by simp (maxSteps := 2000000) [h1]; with_reducible rfl) ?_) | (show R _ _ _ [] _ _ _ _; refine R_nil (by simp; with_reducible rfl) ?_) | (show W _ (.seq (.cond _ _ _) _) _ _; first | refine W_ct (by first | (simp [h1]; done) | fail) ?_ | refine W_cf (by first | (simp [h1]; done) | fail) ?_) | refine W_skip ?_ | refine W_bl (c := .seq _ _) ?_ | refine W_bl (c := .region _ _) ?_ | refine W_bl (c := .cond _ _ _) ?_ | refine W_bl (c := .block _ _) ?_ | refine W_rt ?_ | refine W_ex ?_ | refine W_end ?_ | refine W_tail (a := .region _ _) ?_ | refine W_tail (a := .cond _ _ _) ?_ | refine W_tail (a := .ret) ?_ | refine W_tail (a := .exit _) ?_ | refine W_tail (a := .block _ _) ?_ | refine QB_normal ?_ | refine QB_exit ?_ | refine QB_ret ?_ | refine QB_out (by decide) ?_ | refine QL_next ?_ | refine QL_exit ?_ | refine QL_ret ?_ | refine QL_out (by decide) ?_ | (show Fin _ _ .ret _; exact Fin_ret (by first | (simp [c42]; done) | (simp [c42]; with_reducible rfl))) | (show Fin _ _ .normal _; exact Fin_end (by first | (simp [c42]; done) | (simp [c42]; with_reducible rfl))))
    case v1 => simp
  · by_cases h2 : 64 ≤ k
    · have he : be k = 18446744073709551615 := by
        unfold be
        rw [ofN_congr (q := fun j => decide (j < 64)) fun j hj => ?_]
        · rw [below_bits 64 (by omega)]
        · have : (j : Int) < k := by omega
          simp [this, hj]
      rw [he]
      refine FV_W T42 (r := ?r2) ?h2 ?v2
      case h2 =>
        simp only [c42, c42_b, Lift.start]
        repeat (first | refine W_assoc ?_ | (show W _ (.seq (.region _ _) _) _ _; refine W_reg (by simp; with_reducible rfl) ?_) | (show R _ _ _ (_ :: _) _ _ _ _; refine R_op (by simp (maxSteps := 2000000) [h1, h2]; with_reducible rfl) ?_) | (show R _ _ _ [] _ _ _ _; refine R_nil (by simp; with_reducible rfl) ?_) | (show W _ (.seq (.cond _ _ _) _) _ _; first | refine W_ct (by first | (simp [h1, h2]; done) | fail) ?_ | refine W_cf (by first | (simp [h1, h2]; done) | fail) ?_) | refine W_skip ?_ | refine W_bl (c := .seq _ _) ?_ | refine W_bl (c := .region _ _) ?_ | refine W_bl (c := .cond _ _ _) ?_ | refine W_bl (c := .block _ _) ?_ | refine W_rt ?_ | refine W_ex ?_ | refine W_end ?_ | refine W_tail (a := .region _ _) ?_ | refine W_tail (a := .cond _ _ _) ?_ | refine W_tail (a := .ret) ?_ | refine W_tail (a := .exit _) ?_ | refine W_tail (a := .block _ _) ?_ | refine QB_normal ?_ | refine QB_exit ?_ | refine QB_ret ?_ | refine QB_out (by decide) ?_ | refine QL_next ?_ | refine QL_exit ?_ | refine QL_ret ?_ | refine QL_out (by decide) ?_ | (show Fin _ _ .ret _; exact Fin_ret (by first | (simp [c42]; done) | (simp [c42]; with_reducible rfl))) | (show Fin _ _ .normal _; exact Fin_end (by first | (simp [c42]; done) | (simp [c42]; with_reducible rfl))))
      case v2 => simp
    · obtain ⟨m, rfl⟩ := Int.eq_ofNat_of_zero_le (show 0 ≤ k by omega)
      have hm : m < 64 := by omega
      have he : be m = 2 ^ m - 1 := by
        unfold be
        rw [ofN_congr (q := fun j => decide (j < m)) fun j hj => ?_]
        · exact below_bits m (by omega)
        · have : ((j : Int) < (m : Int)) ↔ (j < m) := by omega
          simp [this]
      have hnn : ¬ (m : Int) < 0 := by omega
      have hm0 : ¬ m = 0 := by omega
      refine FV_W T42 (r := ?r3) ?h3 ?v3
      case h3 =>
        simp only [c42, c42_b, Lift.start]
        repeat (first | refine W_assoc ?_ | (show W _ (.seq (.region _ _) _) _ _; refine W_reg (by simp; with_reducible rfl) ?_) | (show R _ _ _ (_ :: _) _ _ _ _; refine R_op (by simp (maxSteps := 2000000) [h1, h2, hnn, hm0]; with_reducible rfl) ?_) | (show R _ _ _ [] _ _ _ _; refine R_nil (by simp; with_reducible rfl) ?_) | (show W _ (.seq (.cond _ _ _) _) _ _; first | refine W_ct (by first | (simp [h1, h2, hnn, hm0]; done) | fail) ?_ | refine W_cf (by first | (simp [h1, h2, hnn, hm0]; done) | fail) ?_) | refine W_skip ?_ | refine W_bl (c := .seq _ _) ?_ | refine W_bl (c := .region _ _) ?_ | refine W_bl (c := .cond _ _ _) ?_ | refine W_bl (c := .block _ _) ?_ | refine W_rt ?_ | refine W_ex ?_ | refine W_end ?_ | refine W_tail (a := .region _ _) ?_ | refine W_tail (a := .cond _ _ _) ?_ | refine W_tail (a := .ret) ?_ | refine W_tail (a := .exit _) ?_ | refine W_tail (a := .block _ _) ?_ | refine QB_normal ?_ | refine QB_exit ?_ | refine QB_ret ?_ | refine QB_out (by decide) ?_ | refine QL_next ?_ | refine QL_exit ?_ | refine QL_ret ?_ | refine QL_out (by decide) ?_ | (show Fin _ _ .ret _; exact Fin_ret (by first | (simp [c42]; done) | (simp [c42]; with_reducible rfl))) | (show Fin _ _ .normal _; exact Fin_end (by first | (simp [c42]; done) | (simp [c42]; with_reducible rfl))))
      case v3 =>
        have hp := pow_lt64 m hm
        have hb : IntKind.u64.bits = 64 := rfl
        have e0 : min m 64 = m := by omega
        have e1 : IntKind.u64.wrap ((2 : Int) ^ m) = ((2 ^ m : Nat) : Int) := by
          rw [show ((2 : Int) ^ m) = ((2 ^ m : Nat) : Int) by simp]
          exact wrapU _ hp
        have h0 : 0 < 2 ^ m := Nat.pow_pos (by omega)
        have e2 : IntKind.u64.wrap (((2 ^ m : Nat) : Int) - 1) = ((2 ^ m - 1 : Nat) : Int) := by
          rw [show (((2 ^ m : Nat) : Int) - 1) = ((2 ^ m - 1 : Nat) : Int) by omega]
          exact wrapU _ (by omega)
        simp only [clo, zipFrom, hb, e0, e1, e2, he]

theorem V_works06 : FV (F T) 29 [] = some (.bool true) := by
  have hw : F T 29 [] [] = some (.bool true, []) := F_iff.2 ⟨200, by kernel_rfl⟩
  have h := FV_of hw
  simpa using h

theorem sets (x : Nat) (hx : x < 18446744073709551616) (k : Int) (l : List Int) : F T 5 [.int .u64 x, .int .i64 k, .ro 1 (enc (eInt .i64) l) false] [] = some (.bool true, []) := by
  refine F_W T5 ?_
  simp only [c5, c5_b, Lift.start]
  by_cases hl : 200 < l.length
  · have h1 : (200 : Int) < l.length := by omega
    repeat (first | refine W_assoc ?_ | (show W _ (.seq (.region _ _) _) _ _; refine W_reg (by simp; with_reducible rfl) ?_) | (show R _ _ _ (_ :: _) _ _ _ _; refine R_op (by simp (maxSteps := 2000000) [hl, h1, V_works06]; with_reducible rfl) ?_) | (show R _ _ _ [] _ _ _ _; refine R_nil (by simp; with_reducible rfl) ?_) | (show W _ (.seq (.cond _ _ _) _) _ _; first | refine W_ct (by first | (simp [hl, h1, V_works06]; done) | fail) ?_ | refine W_cf (by first | (simp [hl, h1, V_works06]; done) | fail) ?_) | refine W_skip ?_ | refine W_bl (c := .seq _ _) ?_ | refine W_bl (c := .region _ _) ?_ | refine W_bl (c := .cond _ _ _) ?_ | refine W_bl (c := .block _ _) ?_ | refine W_rt ?_ | refine W_ex ?_ | refine W_end ?_ | refine W_tail (a := .region _ _) ?_ | refine W_tail (a := .cond _ _ _) ?_ | refine W_tail (a := .ret) ?_ | refine W_tail (a := .exit _) ?_ | refine W_tail (a := .block _ _) ?_ | refine QB_normal ?_ | refine QB_exit ?_ | refine QB_ret ?_ | refine QB_out (by decide) ?_ | refine QL_next ?_ | refine QL_exit ?_ | refine QL_ret ?_ | refine QL_out (by decide) ?_ | (show Fin _ _ .ret _; exact Fin_ret (by first | (simp [c5]; done) | (simp [c5]; with_reducible rfl))) | (show Fin _ _ .normal _; exact Fin_end (by first | (simp [c5]; done) | (simp [c5]; with_reducible rfl))))
  · have h1 : ¬ (200 : Int) < l.length := by omega
    have v1 := V_has x hx k
    have v2 := V_R05has x hx k
    have v3 := V_with x hx k
    have v4 := V_R06with x hx k
    have v5 := V_without x hx k
    have v6 := V_R06without x hx k
    have v7 := V_of l (by omega)
    have v8 := V_R06of l (by omega)
    have v9 := V_below k
    have va := V_R06below k
    repeat (first | refine W_assoc ?_ | (show W _ (.seq (.region _ _) _) _ _; refine W_reg (by simp; with_reducible rfl) ?_) | (show R _ _ _ (_ :: _) _ _ _ _; refine R_op (by simp (maxSteps := 2000000) [hl, h1, v1, v2, v3, v4, v5, v6, v7, v8, v9, va, V_works06]; with_reducible rfl) ?_) | (show R _ _ _ [] _ _ _ _; refine R_nil (by simp; with_reducible rfl) ?_) | (show W _ (.seq (.cond _ _ _) _) _ _; first | refine W_ct (by first | (simp [hl, h1, v1, v2, v3, v4, v5, v6, v7, v8, v9, va, V_works06]; done) | fail) ?_ | refine W_cf (by first | (simp [hl, h1, v1, v2, v3, v4, v5, v6, v7, v8, v9, va, V_works06]; done) | fail) ?_) | refine W_skip ?_ | refine W_bl (c := .seq _ _) ?_ | refine W_bl (c := .region _ _) ?_ | refine W_bl (c := .cond _ _ _) ?_ | refine W_bl (c := .block _ _) ?_ | refine W_rt ?_ | refine W_ex ?_ | refine W_end ?_ | refine W_tail (a := .region _ _) ?_ | refine W_tail (a := .cond _ _ _) ?_ | refine W_tail (a := .ret) ?_ | refine W_tail (a := .exit _) ?_ | refine W_tail (a := .block _ _) ?_ | refine QB_normal ?_ | refine QB_exit ?_ | refine QB_ret ?_ | refine QB_out (by decide) ?_ | refine QL_next ?_ | refine QL_exit ?_ | refine QL_ret ?_ | refine QL_out (by decide) ?_ | (show Fin _ _ .ret _; exact Fin_ret (by first | (simp [c5]; done) | (simp [c5]; with_reducible rfl))) | (show Fin _ _ .normal _; exact Fin_end (by first | (simp [c5]; done) | (simp [c5]; with_reducible rfl))))

theorem V_count (x : Nat) (hx : x < 18446744073709551616) : FV (F T) 31 [.int .u64 x] = some (.int .i64 (lst x 64).length) := by
  have hu : inU (x : Int) := ⟨by omega, by omega⟩
  have h : F T 31 [.int .u64 x] [] = some (.int .i64 (lst x 64).length, []) :=
    F_iff.2 ⟨1, by simp [runBoth, T31, runFn, c31, countR, hu]⟩
  simpa using FV_of h

theorem V_nth (x : Nat) (hx : x < 18446744073709551616) (k : Int) (h1 : -9223372036854775808 ≤ k) (h2 : k ≤ 9223372036854775807) : FV (F T) 32 [.int .u64 x, .int .i64 k] = some (.int .i64 (nth x k)) := by
  have hu : inU (x : Int) := ⟨by omega, by omega⟩
  have hi : inI k := ⟨h1, h2⟩
  have h : F T 32 [.int .u64 x, .int .i64 k] [] = some (.int .i64 (nth x k), []) :=
    F_iff.2 ⟨1, by simp [runBoth, T32, runFn, c32, nthR, hu, hi]⟩
  simpa using FV_of h

theorem lst_count (x : Nat) : ∀ n, n ≤ 64 → (lst (x : Int) n).length = (List.range n).countP fun j => x.testBit j
  | 0, _ => by simp [lst]
  | n + 1, h => by
    rw [lst_succ, has_bit x n (by omega), List.length_append, lst_count x n (by omega), List.range_succ, List.countP_append]
    cases hb : x.testBit n <;> simp [hb]

theorem count_wi (x : Nat) (k : Nat) (hk : k < 64) : ∀ n, n ≤ 64 → ((List.range n).countP fun j => (wi x k).testBit j) = ((List.range n).countP fun j => (wo x k).testBit j) + (if k < n then 1 else 0)
  | 0, _ => by simp
  | n + 1, h => by
    rw [List.range_succ, List.countP_append, List.countP_append, count_wi x k hk n (by omega)]
    have e1 := wi_bit x k n (by omega)
    have e2 := wo_bit x k n (by omega)
    by_cases hn : k = n
    · subst hn
      simp at e1 e2
      simp [e1, e2]
    · have hn2 : ¬ (k : Int) = (n : Int) := by omega
      simp only [hn2, decide_false, Bool.or_false, Bool.not_false, Bool.and_true] at e1 e2
      have hc : (k < n + 1) ↔ (k < n) := by omega
      simp only [List.countP_cons, List.countP_nil, e1, e2, hc]
      omega

theorem count_be (x y : Nat) (m : Nat) (hm : m ≤ 64) (hy : ∀ j, j < 64 → y.testBit j = (x.testBit j && decide (j < m))) : ∀ n, n ≤ 64 → ((List.range n).countP fun j => y.testBit j) = (List.range (min n m)).countP fun j => x.testBit j
  | 0, _ => by simp
  | n + 1, h => by
    rw [List.range_succ, List.countP_append, count_be x y m hm hy n (by omega)]
    have e := hy n (by omega)
    by_cases hn : n < m
    · have e1 : min (n + 1) m = min n m + 1 := by omega
      have e2 : min n m = n := by omega
      rw [e1, List.range_succ, List.countP_append, e2]
      simp [e, hn]
    · have e1 : min (n + 1) m = min n m := by omega
      rw [e1]
      simp [e, hn]

theorem nth_below (x m : Nat) (hm : m < 64) : (nth (x : Int) ((lst (x : Int) m).length : Nat) = (m : Int)) ↔ x.testBit m = true := by
  have h0 : (0 : Int) ≤ ((lst (x : Int) m).length : Nat) := by omega
  unfold nth
  rw [if_pos h0, Int.toNat_natCast]
  constructor
  · intro h
    rw [List.getD_eq_getElem?_getD] at h
    cases hq : (lst (x : Int) 64)[(lst (x : Int) m).length]? with
    | none => rw [hq] at h; simp at h <;> omega
    | some y =>
      rw [hq] at h
      simp at h
      subst h
      have hmem := List.mem_of_getElem? hq
      have := lst_mem x 64 (by omega) (m : Int)
      have ha : (lst (x : Int) 64).any (fun y => decide (y = (m : Int))) = true := List.any_eq_true.2 ⟨_, hmem, by simp⟩
      rw [ha] at this
      simp at this
      exact this.2
  · intro h
    have hp := lst_prefix x (m + 1) 64 (by omega)
    rw [lst_succ, has_bit x m hm, h] at hp
    obtain ⟨r, hr⟩ := hp
    rw [← hr, List.getD_eq_getElem?_getD]
    simp

theorem and_lt (x y : Nat) (hx : x < 18446744073709551616) : IntKind.u64.wrap ↑(x % 2 ^ IntKind.u64.bits &&& y % 2 ^ IntKind.u64.bits) = ((x % 2 ^ 64 &&& y % 2 ^ 64 : Nat) : Int) :=
  wrapU _ (Nat.lt_of_le_of_lt Nat.and_le_left (by show x % 2 ^ 64 < _; omega))

theorem nthLaw (x : Nat) (hx : x < 18446744073709551616) (k : Int) (h1 : -9223372036854775808 ≤ k) (h2 : k ≤ 9223372036854775807) : F T 6 [.int .u64 x, .int .i64 k] [] = some (.bool true, []) := by
  refine F_W T6 ?_
  simp only [c6, c6_b, Lift.start]
  have w0 : IntKind.i64.wrap (k - k) = 0 := by rw [Int.sub_self]; decide
  have w1 : IntKind.i64.wrap (0 - 1) = -1 := by decide
  have w2 : IntKind.i64.wrap (-1) = -1 := by decide
  have w3 : IntKind.i64.wrap 0 = 0 := by decide
  have n1 := V_nth x hx (-1) (by omega) (by omega)
  have n2 : nth (x : Int) (-1) = -1 := by unfold nth; simp
  rw [n2] at n1
  by_cases ha : k < 0
  · repeat (first | refine W_assoc ?_ | (show W _ (.seq (.region _ _) _) _ _; refine W_reg (by simp; with_reducible rfl) ?_) | (show R _ _ _ (_ :: _) _ _ _ _; refine R_op (by simp (maxSteps := 2000000) [ha, w0, w1, w2, w3, n1, V_works06]; with_reducible rfl) ?_) | (show R _ _ _ [] _ _ _ _; refine R_nil (by simp; with_reducible rfl) ?_) | (show W _ (.seq (.cond _ _ _) _) _ _; first | refine W_ct (by first | (simp [ha, w0, w1, w2, w3, n1, V_works06]; done) | fail) ?_ | refine W_cf (by first | (simp [ha, w0, w1, w2, w3, n1, V_works06]; done) | fail) ?_) | refine W_skip ?_ | refine W_bl (c := .seq _ _) ?_ | refine W_bl (c := .region _ _) ?_ | refine W_bl (c := .cond _ _ _) ?_ | refine W_bl (c := .block _ _) ?_ | refine W_rt ?_ | refine W_ex ?_ | refine W_end ?_ | refine W_tail (a := .region _ _) ?_ | refine W_tail (a := .cond _ _ _) ?_ | refine W_tail (a := .ret) ?_ | refine W_tail (a := .exit _) ?_ | refine W_tail (a := .block _ _) ?_ | refine QB_normal ?_ | refine QB_exit ?_ | refine QB_ret ?_ | refine QB_out (by decide) ?_ | refine QL_next ?_ | refine QL_exit ?_ | refine QL_ret ?_ | refine QL_out (by decide) ?_ | (show Fin _ _ .ret _; exact Fin_ret (by first | (simp [c6]; done) | (simp [c6]; with_reducible rfl))) | (show Fin _ _ .normal _; exact Fin_end (by first | (simp [c6]; done) | (simp [c6]; with_reducible rfl))))
  by_cases hb : 63 < k
  · repeat (first | refine W_assoc ?_ | (show W _ (.seq (.region _ _) _) _ _; refine W_reg (by simp; with_reducible rfl) ?_) | (show R _ _ _ (_ :: _) _ _ _ _; refine R_op (by simp (maxSteps := 2000000) [ha, hb, w0, w1, w2, w3, n1, V_works06]; with_reducible rfl) ?_) | (show R _ _ _ [] _ _ _ _; refine R_nil (by simp; with_reducible rfl) ?_) | (show W _ (.seq (.cond _ _ _) _) _ _; first | refine W_ct (by first | (simp [ha, hb, w0, w1, w2, w3, n1, V_works06]; done) | fail) ?_ | refine W_cf (by first | (simp [ha, hb, w0, w1, w2, w3, n1, V_works06]; done) | fail) ?_) | refine W_skip ?_ | refine W_bl (c := .seq _ _) ?_ | refine W_bl (c := .region _ _) ?_ | refine W_bl (c := .cond _ _ _) ?_ | refine W_bl (c := .block _ _) ?_ | refine W_rt ?_ | refine W_ex ?_ | refine W_end ?_ | refine W_tail (a := .region _ _) ?_ | refine W_tail (a := .cond _ _ _) ?_ | refine W_tail (a := .ret) ?_ | refine W_tail (a := .exit _) ?_ | refine W_tail (a := .block _ _) ?_ | refine QB_normal ?_ | refine QB_exit ?_ | refine QB_ret ?_ | refine QB_out (by decide) ?_ | refine QL_next ?_ | refine QL_exit ?_ | refine QL_ret ?_ | refine QL_out (by decide) ?_ | (show Fin _ _ .ret _; exact Fin_ret (by first | (simp [c6]; done) | (simp [c6]; with_reducible rfl))) | (show Fin _ _ .normal _; exact Fin_end (by first | (simp [c6]; done) | (simp [c6]; with_reducible rfl))))
  obtain ⟨m, rfl⟩ := Int.eq_ofNat_of_zero_le (show 0 ≤ k by omega)
  have hm : m < 64 := by omega
  have hb' : ¬ 63 < m := by omega
  have v1 := V_below m
  generalize hB : be (m : Int) = B at v1
  have hBlt : B < 18446744073709551616 := by rw [← hB]; exact ofN64_lt _
  have v2 := and_lt x B hx
  have hy : ∀ j, j < 64 → (x % 2 ^ 64 &&& B % 2 ^ 64).testBit j = (x.testBit j && decide (j < m)) := by
    intro j hj
    rw [Nat.testBit_and, Nat.mod_eq_of_lt hx, Nat.mod_eq_of_lt hBlt, ← hB]
    unfold be
    rw [ofN_bit]
    have : ((j : Int) < (m : Int)) ↔ (j < m) := by omega
    simp [hj, this]
  have hylt : (x % 2 ^ 64 &&& B % 2 ^ 64) < 18446744073709551616 := Nat.lt_of_le_of_lt Nat.and_le_left (by omega)
  generalize (x % 2 ^ 64 &&& B % 2 ^ 64) = y at v2 hy hylt
  have v3 := V_count y hylt
  have hc : (lst (y : Int) 64).length = (lst (x : Int) m).length := by
    rw [lst_count y 64 (by omega), lst_count x m (by omega), count_be x y m (by omega) hy 64 (by omega)]
    congr 1
    congr 1
    omega
  rw [hc] at v3
  have hlm := lst_len x m
  have v4 := V_nth x hx ((lst (x : Int) m).length : Nat) (by omega) (by omega)
  have v5 := V_has x hx m
  rw [has_bit x m hm] at v5
  have hnb := nth_below x m hm
  have v6 := V_with x hx m
  have v7 := V_without x hx m
  have v8 := V_count (wi x m) (wi_lt x m)
  have v9 := V_count (wo x m) (wo_lt x m)
  have hcw : (lst (wi x m : Nat) 64).length = (lst (wo x m : Nat) 64).length + 1 := by
    rw [lst_count _ 64 (by omega), lst_count _ 64 (by omega), count_wi x m hm 64 (by omega), if_pos (by omega)]
  rw [hcw] at v8
  have hlo := lst_len (wo x m : Nat) 64
  have w4 : IntKind.i64.wrap (((lst (wo x m : Nat) 64).length : Int) + 1) = (lst (wo x m : Nat) 64).length + 1 := by
    rw [wrap_i64 _ (by omega) (by omega)]
  generalize (lst (wo x m : Nat) 64).length = cw at v8 v9 w4
  generalize wi x m = xw at v6 v8
  generalize wo x m = xo at v7 v9
  generalize nth (x : Int) ((lst (x : Int) m).length : Nat) = nv at v4 hnb
  generalize (lst (x : Int) m).length = lm at v3 v4
  cases hbit : x.testBit m with
  | true =>
    have : nv = m := hnb.2 hbit
    subst this
    rw [hbit] at v5
    repeat (first | refine W_assoc ?_ | (show W _ (.seq (.region _ _) _) _ _; refine W_reg (by simp; with_reducible rfl) ?_) | (show R _ _ _ (_ :: _) _ _ _ _; refine R_op (by simp (maxSteps := 2000000) [ha, hb, hb', v1, v2, v3, v4, v5, v6, v7, v8, v9, w4, V_works06]; with_reducible rfl) ?_) | (show R _ _ _ [] _ _ _ _; refine R_nil (by simp; with_reducible rfl) ?_) | (show W _ (.seq (.cond _ _ _) _) _ _; first | refine W_ct (by first | (simp [ha, hb, hb', v1, v2, v3, v4, v5, v6, v7, v8, v9, w4, V_works06]; done) | fail) ?_ | refine W_cf (by first | (simp [ha, hb, hb', v1, v2, v3, v4, v5, v6, v7, v8, v9, w4, V_works06]; done) | fail) ?_) | refine W_skip ?_ | refine W_bl (c := .seq _ _) ?_ | refine W_bl (c := .region _ _) ?_ | refine W_bl (c := .cond _ _ _) ?_ | refine W_bl (c := .block _ _) ?_ | refine W_rt ?_ | refine W_ex ?_ | refine W_end ?_ | refine W_tail (a := .region _ _) ?_ | refine W_tail (a := .cond _ _ _) ?_ | refine W_tail (a := .ret) ?_ | refine W_tail (a := .exit _) ?_ | refine W_tail (a := .block _ _) ?_ | refine QB_normal ?_ | refine QB_exit ?_ | refine QB_ret ?_ | refine QB_out (by decide) ?_ | refine QL_next ?_ | refine QL_exit ?_ | refine QL_ret ?_ | refine QL_out (by decide) ?_ | (show Fin _ _ .ret _; exact Fin_ret (by first | (simp [c6]; done) | (simp [c6]; with_reducible rfl))) | (show Fin _ _ .normal _; exact Fin_end (by first | (simp [c6]; done) | (simp [c6]; with_reducible rfl))))
  | false =>
    have hne : ¬ nv = m := fun e => by rw [hnb.1 e] at hbit; cases hbit
    rw [hbit] at v5
    repeat (first | refine W_assoc ?_ | (show W _ (.seq (.region _ _) _) _ _; refine W_reg (by simp; with_reducible rfl) ?_) | (show R _ _ _ (_ :: _) _ _ _ _; refine R_op (by simp (maxSteps := 2000000) [ha, hb, hb', v1, v2, v3, v4, v5, v6, v7, v8, v9, w4, hne, V_works06]; with_reducible rfl) ?_) | (show R _ _ _ [] _ _ _ _; refine R_nil (by simp; with_reducible rfl) ?_) | (show W _ (.seq (.cond _ _ _) _) _ _; first | refine W_ct (by first | (simp [ha, hb, hb', v1, v2, v3, v4, v5, v6, v7, v8, v9, w4, hne, V_works06]; done) | fail) ?_ | refine W_cf (by first | (simp [ha, hb, hb', v1, v2, v3, v4, v5, v6, v7, v8, v9, w4, hne, V_works06]; done) | fail) ?_) | refine W_skip ?_ | refine W_bl (c := .seq _ _) ?_ | refine W_bl (c := .region _ _) ?_ | refine W_bl (c := .cond _ _ _) ?_ | refine W_bl (c := .block _ _) ?_ | refine W_rt ?_ | refine W_ex ?_ | refine W_end ?_ | refine W_tail (a := .region _ _) ?_ | refine W_tail (a := .cond _ _ _) ?_ | refine W_tail (a := .ret) ?_ | refine W_tail (a := .exit _) ?_ | refine W_tail (a := .block _ _) ?_ | refine QB_normal ?_ | refine QB_exit ?_ | refine QB_ret ?_ | refine QB_out (by decide) ?_ | refine QL_next ?_ | refine QL_exit ?_ | refine QL_ret ?_ | refine QL_out (by decide) ?_ | (show Fin _ _ .ret _; exact Fin_ret (by first | (simp [c6]; done) | (simp [c6]; with_reducible rfl))) | (show Fin _ _ .normal _; exact Fin_end (by first | (simp [c6]; done) | (simp [c6]; with_reducible rfl))))

end Go.Proofs.Ytnobgooojbppbaa.Flock
