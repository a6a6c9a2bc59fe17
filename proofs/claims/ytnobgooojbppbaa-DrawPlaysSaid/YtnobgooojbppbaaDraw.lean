/- Draws: the tape, and what is selected by it. -/
import Derived.Test.YtnobgooojbppbaaDrawPure
set_option linter.all false
set_option linter.unusedSimpArgs false
set_option maxRecDepth 100000
set_option maxHeartbeats 4000000
namespace Go.Proofs.Ytnobgooojbppbaa.Flock
open Go Go.RowKit Go.Proofs.Ytnobgooojbppbaa.Lift Go.Proofs.Ytnobgooojbppbaa.TF Go.Proofs.Ytnobgooojbppbaa.Base Go.Proofs.Ytnobgooojbppbaa.FlockIn

/-- A tape: its variable, its row. -/
abbrev tv (lo n : Nat) : AObj := ⟨157, 1, true, [[.own 1 lo n]], 0⟩
abbrev tr (r : List Int) : AObj := ⟨41, 1, false, enc (eInt .u64) r, 0⟩

theorem F_new (l : List Int) (hl : l.length ≤ 100000) : F T 45 [.ro 1 (enc (eInt .u64) l) false] [] = some (.ref 0 0 0, [tv 0 l.length, tr l]) := by
  have hb : l.length * 8 ≤ 140737488355328 := by omega
  have hb2 : l.length ≤ 140737488355328 := by omega
  refine F_W T45 ?_
  simp only [c45, c45_b, Lift.start]
  repeat (first | refine W_assoc ?_ | (show W _ (.seq (.region _ _) _) _ _; refine W_reg (by simp; with_reducible rfl) ?_) | (show R _ _ _ (_ :: _) _ _ _ _; refine R_op (by simp (maxSteps := 2000000) [hb, hb2]; with_reducible rfl) ?_) | (show R _ _ _ [] _ _ _ _; refine R_nil (by simp; with_reducible rfl) ?_) | (show W _ (.seq (.cond _ _ _) _) _ _; first | refine W_ct (by first | (simp [hb, hb2]; done) | fail) ?_ | refine W_cf (by first | (simp [hb, hb2]; done) | fail) ?_) | refine W_skip ?_ | refine W_bl (c := .seq _ _) ?_ | refine W_bl (c := .region _ _) ?_ | refine W_bl (c := .cond _ _ _) ?_ | refine W_bl (c := .block _ _) ?_ | refine W_rt ?_ | refine W_ex ?_ | refine W_end ?_ | refine W_tail (a := .region _ _) ?_ | refine W_tail (a := .cond _ _ _) ?_ | refine W_tail (a := .ret) ?_ | refine W_tail (a := .exit _) ?_ | refine W_tail (a := .block _ _) ?_ | refine QB_normal ?_ | refine QB_exit ?_ | refine QB_ret ?_ | refine QB_out (by decide) ?_ | refine QL_next ?_ | refine QL_exit ?_ | refine QL_ret ?_ | refine QL_out (by decide) ?_ | (show Fin _ _ .ret _; exact Fin_ret (by first | (simp [c45]; done) | (simp [c45]; with_reducible rfl))) | (show Fin _ _ .normal _; exact Fin_end (by first | (simp [c45]; done) | (simp [c45]; with_reducible rfl))))

theorem F_next0 (r : List Int) (lo : Nat) : F T 48 [.ref 0 0 0] [tv lo 0, tr r] = some (.int .u64 0, [tv lo 0, tr r]) := by
  refine F_W T48 ?_
  simp only [c48, c48_b, Lift.start]
  repeat (first | refine W_assoc ?_ | (show W _ (.seq (.region _ _) _) _ _; refine W_reg (by simp; with_reducible rfl) ?_) | (show R _ _ _ (_ :: _) _ _ _ _; refine R_op (by simp (maxSteps := 2000000); with_reducible rfl) ?_) | (show R _ _ _ [] _ _ _ _; refine R_nil (by simp; with_reducible rfl) ?_) | (show W _ (.seq (.cond _ _ _) _) _ _; first | refine W_ct (by first | (simp; done) | fail) ?_ | refine W_cf (by first | (simp; done) | fail) ?_) | refine W_skip ?_ | refine W_bl (c := .seq _ _) ?_ | refine W_bl (c := .region _ _) ?_ | refine W_bl (c := .cond _ _ _) ?_ | refine W_bl (c := .block _ _) ?_ | refine W_rt ?_ | refine W_ex ?_ | refine W_end ?_ | refine W_tail (a := .region _ _) ?_ | refine W_tail (a := .cond _ _ _) ?_ | refine W_tail (a := .ret) ?_ | refine W_tail (a := .exit _) ?_ | refine W_tail (a := .block _ _) ?_ | refine QB_normal ?_ | refine QB_exit ?_ | refine QB_ret ?_ | refine QB_out (by decide) ?_ | refine QL_next ?_ | refine QL_exit ?_ | refine QL_ret ?_ | refine QL_out (by decide) ?_ | (show Fin _ _ .ret _; exact Fin_ret (by first | (simp [c48]; done) | (simp [c48]; with_reducible rfl))) | (show Fin _ _ .normal _; exact Fin_end (by first | (simp [c48]; done) | (simp [c48]; with_reducible rfl))))

theorem F_next (r : List Int) (lo n : Nat) (h : lo + (n + 1) = r.length) : F T 48 [.ref 0 0 0] [tv lo (n + 1), tr r] = some (.int .u64 (r[lo]'(by omega)), [tv (lo + 1) n, tr r]) := by
  have h1 : lo < r.length := by omega
  have h2 : (1 : Int) ≤ (n : Int) + 1 := by omega
  refine F_W T48 ?_
  simp only [c48, c48_b, Lift.start]
  repeat (first | refine W_assoc ?_ | (show W _ (.seq (.region _ _) _) _ _; refine W_reg (by simp; with_reducible rfl) ?_) | (show R _ _ _ (_ :: _) _ _ _ _; refine R_op (by simp (maxSteps := 2000000) [h1, h2]; with_reducible rfl) ?_) | (show R _ _ _ [] _ _ _ _; refine R_nil (by simp; with_reducible rfl) ?_) | (show W _ (.seq (.cond _ _ _) _) _ _; first | refine W_ct (by first | (simp [h1, h2]; done) | fail) ?_ | refine W_cf (by first | (simp [h1, h2]; done) | fail) ?_) | refine W_skip ?_ | refine W_bl (c := .seq _ _) ?_ | refine W_bl (c := .region _ _) ?_ | refine W_bl (c := .cond _ _ _) ?_ | refine W_bl (c := .block _ _) ?_ | refine W_rt ?_ | refine W_ex ?_ | refine W_end ?_ | refine W_tail (a := .region _ _) ?_ | refine W_tail (a := .cond _ _ _) ?_ | refine W_tail (a := .ret) ?_ | refine W_tail (a := .exit _) ?_ | refine W_tail (a := .block _ _) ?_ | refine QB_normal ?_ | refine QB_exit ?_ | refine QB_ret ?_ | refine QB_out (by decide) ?_ | refine QL_next ?_ | refine QL_exit ?_ | refine QL_ret ?_ | refine QL_out (by decide) ?_ | (show Fin _ _ .ret _; exact Fin_ret (by first | (simp [c48]; done) | (simp [c48]; with_reducible rfl))) | (show Fin _ _ .normal _; exact Fin_end (by first | (simp [c48]; done) | (simp [c48]; with_reducible rfl))))

/-- A draw below a number. -/
theorem F_below0 (r : List Int) (lo : Nat) (c : Nat) (hc : c ≠ 0) (hc2 : c ≤ 64) : F T 50 [.ref 0 0 0, .int .i64 c] [tv lo 0, tr r] = some (.int .i64 0, [tv lo 0, tr r]) := by
  have v1 := F_next0 r lo
  have h1 : ¬ (c : Int) < 1 := by omega
  have h2 : IntKind.u64.wrap (c : Int) = c := wrapU _ (by omega)
  have h3 : ¬ (c : Int) = 0 := by omega
  have h6 : IntKind.i64.wrap 0 = 0 := by decide
  refine F_W T50 ?_
  simp only [c50, c50_b, Lift.start]
  repeat (first | refine W_assoc ?_ | (show W _ (.seq (.region _ _) _) _ _; refine W_reg (by simp; with_reducible rfl) ?_) | (show R _ _ _ (_ :: _) _ _ _ _; refine R_op (by simp (maxSteps := 2000000) [v1, h1, h2, h3, hc, h6]; with_reducible rfl) ?_) | (show R _ _ _ [] _ _ _ _; refine R_nil (by simp; with_reducible rfl) ?_) | (show W _ (.seq (.cond _ _ _) _) _ _; first | refine W_ct (by first | (simp [v1, h1, h2, h3, hc, h6]; done) | fail) ?_ | refine W_cf (by first | (simp [v1, h1, h2, h3, hc, h6]; done) | fail) ?_) | refine W_skip ?_ | refine W_bl (c := .seq _ _) ?_ | refine W_bl (c := .region _ _) ?_ | refine W_bl (c := .cond _ _ _) ?_ | refine W_bl (c := .block _ _) ?_ | refine W_rt ?_ | refine W_ex ?_ | refine W_end ?_ | refine W_tail (a := .region _ _) ?_ | refine W_tail (a := .cond _ _ _) ?_ | refine W_tail (a := .ret) ?_ | refine W_tail (a := .exit _) ?_ | refine W_tail (a := .block _ _) ?_ | refine QB_normal ?_ | refine QB_exit ?_ | refine QB_ret ?_ | refine QB_out (by decide) ?_ | refine QL_next ?_ | refine QL_exit ?_ | refine QL_ret ?_ | refine QL_out (by decide) ?_ | (show Fin _ _ .ret _; exact Fin_ret (by first | (simp [c50]; done) | (simp [c50]; with_reducible rfl))) | (show Fin _ _ .normal _; exact Fin_end (by first | (simp [c50]; done) | (simp [c50]; with_reducible rfl))))

theorem F_below (r : List Int) (hr : ∀ y ∈ r, 0 ≤ y ∧ y < 18446744073709551616) (lo n : Nat) (h : lo + (n + 1) = r.length) (c : Nat) (hc : c ≠ 0) (hc2 : c ≤ 64) :
    F T 50 [.ref 0 0 0, .int .i64 c] [tv lo (n + 1), tr r] = some (.int .i64 ((r[lo]'(by omega)).toNat % c : Nat), [tv (lo + 1) n, tr r]) := by
  have v1 := F_next r lo n h
  have h1 : ¬ (c : Int) < 1 := by omega
  have h2 : IntKind.u64.wrap (c : Int) = c := wrapU _ (by omega)
  have h3 : ¬ (c : Int) = 0 := by omega
  have hy := hr (r[lo]'(by omega)) (List.getElem_mem _)
  generalize r[lo]'(by omega) = y at *
  obtain ⟨z, rfl⟩ := Int.eq_ofNat_of_zero_le hy.1
  have h4 : (z : Int).tmod c = ((z % c : Nat) : Int) := by rw [Int.tmod_eq_emod_of_nonneg (by omega)]; simp
  have h5 : z % c < 64 := Nat.lt_of_lt_of_le (Nat.mod_lt _ (by omega)) hc2
  have h6 : IntKind.i64.wrap ((z % c : Nat) : Int) = ((z % c : Nat) : Int) := by rw [wrap_i64 _ (by omega) (by omega)]
  simp only [Int.toNat_natCast]
  generalize z % c = q at *
  refine F_W T50 ?_
  simp only [c50, c50_b, Lift.start]
  repeat (first | refine W_assoc ?_ | (show W _ (.seq (.region _ _) _) _ _; refine W_reg (by simp; with_reducible rfl) ?_) | (show R _ _ _ (_ :: _) _ _ _ _; refine R_op (by simp (maxSteps := 2000000) [v1, h1, h2, h3, h4, h6, hc]; with_reducible rfl) ?_) | (show R _ _ _ [] _ _ _ _; refine R_nil (by simp; with_reducible rfl) ?_) | (show W _ (.seq (.cond _ _ _) _) _ _; first | refine W_ct (by first | (simp [v1, h1, h2, h3, h4, h6, hc]; done) | fail) ?_ | refine W_cf (by first | (simp [v1, h1, h2, h3, h4, h6, hc]; done) | fail) ?_) | refine W_skip ?_ | refine W_bl (c := .seq _ _) ?_ | refine W_bl (c := .region _ _) ?_ | refine W_bl (c := .cond _ _ _) ?_ | refine W_bl (c := .block _ _) ?_ | refine W_rt ?_ | refine W_ex ?_ | refine W_end ?_ | refine W_tail (a := .region _ _) ?_ | refine W_tail (a := .cond _ _ _) ?_ | refine W_tail (a := .ret) ?_ | refine W_tail (a := .exit _) ?_ | refine W_tail (a := .block _ _) ?_ | refine QB_normal ?_ | refine QB_exit ?_ | refine QB_ret ?_ | refine QB_out (by decide) ?_ | refine QL_next ?_ | refine QL_exit ?_ | refine QL_ret ?_ | refine QL_out (by decide) ?_ | (show Fin _ _ .ret _; exact Fin_ret (by first | (simp [c50]; done) | (simp [c50]; with_reducible rfl))) | (show Fin _ _ .normal _; exact Fin_end (by first | (simp [c50]; done) | (simp [c50]; with_reducible rfl))))

/-- So many draws further. -/
def adv (r : List Int) (lo j : Nat) : Nat := min (lo + j) r.length

theorem F_belowA (r : List Int) (hr : ∀ y ∈ r, 0 ≤ y ∧ y < 18446744073709551616) (lo : Nat) (h : lo ≤ r.length) (c : Nat) (hc : c ≠ 0) (hc2 : c ≤ 64) :
    F T 50 [.ref 0 0 0, .int .i64 c] [tv lo (r.length - lo), tr r] = some (.int .i64 (low (r.drop lo) c : Nat), [tv (adv r lo 1) (r.length - adv r lo 1), tr r]) := by
  by_cases h1 : lo < r.length
  · have e1 : r.length - lo = (r.length - lo - 1) + 1 := by omega
    have e2 : adv r lo 1 = lo + 1 := by unfold adv; omega
    have e3 : low (r.drop lo) c = (r[lo]'h1).toNat % c := by unfold low; rw [List.drop_eq_getElem_cons h1]; rfl
    rw [e2, e3, e1, F_below r hr lo _ (by omega) c hc hc2]
    rw [show r.length - (lo + 1) = r.length - lo - 1 by omega]
  · have e1 : r.length - lo = 0 := by omega
    have e2 : adv r lo 1 = lo := by unfold adv; omega
    have e3 : low (r.drop lo) c = 0 := by unfold low; rw [List.drop_of_length_le (by omega)]; simp
    rw [e2, e3, e1, F_below0 r lo c hc hc2]
    rfl

theorem some_loop (r : List Int) (hr : ∀ y ∈ r, 0 ≤ y ∧ y < 18446744073709551616) (k : Int) :
    ∀ (m x lo : Nat) (out : List Int) (st : ASt), (k - out.length).toNat = m → x < 18446744073709551616 → lo ≤ r.length → out.length + (lst (x : Int) 64).length ≤ 64 →
      canon [0, 1, 2, 7] st = ⟨[.int .u64 x, .int .i64 k, .fn (.func 50) [.ref 0 0 0] [], .top, .top, .top, .top, .own 2 0 out.length, .top, .top, .top, .top, .top, .top, .top, .top, .top, .top, .top, .top, .top, .top, .top, .top, .top, .top, .top, .top, .top, .top, .top], [(0, tv lo (r.length - lo)), (1, tr r), (2, ⟨3, 1, false, enc (eInt .i64) out, 0⟩)], 3, 2⟩ →
      W T c111_k0 st (Lift.Fin c111 (.own 2 0 (out ++ (sel m (r.drop lo) x).1).length, [tv (adv r lo (min m (lst (x : Int) 64).length)) (r.length - adv r lo (min m (lst (x : Int) 64).length)), tr r, ⟨3, 1, false, enc (eInt .i64) (out ++ (sel m (r.drop lo) x).1), 0⟩])) := by
  intro m
  induction m with
  | zero =>
    intro x lo out st hk hx hlo hout hc
    have e1 : adv r lo (min 0 (lst (x : Int) 64).length) = lo := by unfold adv; omega
    have h1 : ¬ (out.length : Int) < k := by omega
    rw [e1]
    simp only [sel, List.append_nil]
    unfold c111_k0
    refine W_round hc ?_
    unfold c111_l0
    by_cases h0 : x = 0
    · repeat (first | refine W_assoc ?_ | (show W _ (.seq (.region _ _) _) _ _; refine W_reg (by simp; with_reducible rfl) ?_) | (show R _ _ _ (_ :: _) _ _ _ _; refine R_op (by simp (maxSteps := 2000000) [h0, h1]; with_reducible rfl) ?_) | (show R _ _ _ [] _ _ _ _; refine R_nil (by simp; with_reducible rfl) ?_) | (show W _ (.seq (.cond _ _ _) _) _ _; first | refine W_ct (by first | (simp [h0, h1]; done) | fail) ?_ | refine W_cf (by first | (simp [h0, h1]; done) | fail) ?_) | refine W_skip ?_ | refine W_bl (c := .seq _ _) ?_ | refine W_bl (c := .region _ _) ?_ | refine W_bl (c := .cond _ _ _) ?_ | refine W_bl (c := .block _ _) ?_ | refine W_rt ?_ | refine W_ex ?_ | refine W_end ?_ | refine W_tail (a := .region _ _) ?_ | refine W_tail (a := .cond _ _ _) ?_ | refine W_tail (a := .ret) ?_ | refine W_tail (a := .exit _) ?_ | refine W_tail (a := .block _ _) ?_ | refine QB_normal ?_ | refine QB_exit ?_ | refine QB_ret ?_ | refine QB_out (by decide) ?_ | refine QL_next ?_ | refine QL_exit ?_ | refine QL_ret ?_ | refine QL_out (by decide) ?_ | (show Fin _ _ .ret _; exact Fin_ret (by first | (simp [c111]; done) | (simp [c111]; with_reducible rfl))) | (show Fin _ _ .normal _; exact Fin_end (by first | (simp [c111]; done) | (simp [c111]; with_reducible rfl))))
    · repeat (first | refine W_assoc ?_ | (show W _ (.seq (.region _ _) _) _ _; refine W_reg (by simp; with_reducible rfl) ?_) | (show R _ _ _ (_ :: _) _ _ _ _; refine R_op (by simp (maxSteps := 2000000) [h0, h1]; with_reducible rfl) ?_) | (show R _ _ _ [] _ _ _ _; refine R_nil (by simp; with_reducible rfl) ?_) | (show W _ (.seq (.cond _ _ _) _) _ _; first | refine W_ct (by first | (simp [h0, h1]; done) | fail) ?_ | refine W_cf (by first | (simp [h0, h1]; done) | fail) ?_) | refine W_skip ?_ | refine W_bl (c := .seq _ _) ?_ | refine W_bl (c := .region _ _) ?_ | refine W_bl (c := .cond _ _ _) ?_ | refine W_bl (c := .block _ _) ?_ | refine W_rt ?_ | refine W_ex ?_ | refine W_end ?_ | refine W_tail (a := .region _ _) ?_ | refine W_tail (a := .cond _ _ _) ?_ | refine W_tail (a := .ret) ?_ | refine W_tail (a := .exit _) ?_ | refine W_tail (a := .block _ _) ?_ | refine QB_normal ?_ | refine QB_exit ?_ | refine QB_ret ?_ | refine QB_out (by decide) ?_ | refine QL_next ?_ | refine QL_exit ?_ | refine QL_ret ?_ | refine QL_out (by decide) ?_ | (show Fin _ _ .ret _; exact Fin_ret (by first | (simp [c111]; done) | (simp [c111]; with_reducible rfl))) | (show Fin _ _ .normal _; exact Fin_end (by first | (simp [c111]; done) | (simp [c111]; with_reducible rfl))))
  | succ m ih =>
    intro x lo out st hk hx hlo hout hc
    have h1 : (out.length : Int) < k := by omega
    by_cases h0 : x = 0
    · subst h0
      have e0 : lst ((0 : Nat) : Int) 64 = [] := by decide
      have e1 : adv r lo (min (m + 1) (lst ((0 : Nat) : Int) 64).length) = lo := by rw [e0]; unfold adv; simp; omega
      rw [e1]
      simp only [sel, if_true, List.append_nil]
      unfold c111_k0
      refine W_round hc ?_
      unfold c111_l0
      repeat (first | refine W_assoc ?_ | (show W _ (.seq (.region _ _) _) _ _; refine W_reg (by simp; with_reducible rfl) ?_) | (show R _ _ _ (_ :: _) _ _ _ _; refine R_op (by simp (maxSteps := 2000000) [h1]; with_reducible rfl) ?_) | (show R _ _ _ [] _ _ _ _; refine R_nil (by simp; with_reducible rfl) ?_) | (show W _ (.seq (.cond _ _ _) _) _ _; first | refine W_ct (by first | (simp [h1]; done) | fail) ?_ | refine W_cf (by first | (simp [h1]; done) | fail) ?_) | refine W_skip ?_ | refine W_bl (c := .seq _ _) ?_ | refine W_bl (c := .region _ _) ?_ | refine W_bl (c := .cond _ _ _) ?_ | refine W_bl (c := .block _ _) ?_ | refine W_rt ?_ | refine W_ex ?_ | refine W_end ?_ | refine W_tail (a := .region _ _) ?_ | refine W_tail (a := .cond _ _ _) ?_ | refine W_tail (a := .ret) ?_ | refine W_tail (a := .exit _) ?_ | refine W_tail (a := .block _ _) ?_ | refine QB_normal ?_ | refine QB_exit ?_ | refine QB_ret ?_ | refine QB_out (by decide) ?_ | refine QL_next ?_ | refine QL_exit ?_ | refine QL_ret ?_ | refine QL_out (by decide) ?_ | (show Fin _ _ .ret _; exact Fin_ret (by first | (simp [c111]; done) | (simp [c111]; with_reducible rfl))) | (show Fin _ _ .normal _; exact Fin_end (by first | (simp [c111]; done) | (simp [c111]; with_reducible rfl))))
    · have hl := low_lt (r.drop lo) x hx h0
      have hll := lst_len x 64
      obtain ⟨hn1, hn2⟩ := nth_mem x _ hl
      have hw := lst_wo_len x _ hn2
      have v1 := V_count x hx
      have v2 := F_belowA r hr lo hlo (lst (x : Int) 64).length (by omega) (by omega)
      have v3 := V_nth x hx (low (r.drop lo) (lst (x : Int) 64).length : Nat) (by omega) (by omega)
      have v4 := V_without x hx (nth x (low (r.drop lo) (lst (x : Int) 64).length : Nat))
      have e2 : (r.drop lo).tail = r.drop (adv r lo 1) := by
        unfold adv
        rw [List.tail_drop]
        rcases Nat.lt_or_ge lo r.length with h | h
        · rw [Nat.min_eq_left (by omega)]
        · rw [List.drop_of_length_le (by omega), List.drop_of_length_le (by omega)]
      have e3 : adv r lo (min (m + 1) (lst (x : Int) 64).length) = adv r (adv r lo 1) (min m (lst ((wo x (nth x (low (r.drop lo) (lst (x : Int) 64).length : Nat)) : Nat) : Int) 64).length) := by unfold adv; omega
      have e4 : (sel (m + 1) (r.drop lo) x).1 = nth x (low (r.drop lo) (lst (x : Int) 64).length : Nat) :: (sel m (r.drop (adv r lo 1)) (wo x (nth x (low (r.drop lo) (lst (x : Int) 64).length : Nat)))).1 := by
        rw [← e2]; simp only [sel, if_neg h0]
      have ih' := ih (wo x (nth x (low (r.drop lo) (lst (x : Int) 64).length : Nat))) (adv r lo 1) (out ++ [nth x (low (r.drop lo) (lst (x : Int) 64).length : Nat)])
      rw [e3, e4]
      have hwl := wo_lt x (nth x (low (r.drop lo) (lst (x : Int) 64).length : Nat))
      have ha : adv r lo 1 ≤ r.length := by unfold adv; omega
      generalize nth x (low (r.drop lo) (lst (x : Int) 64).length : Nat) = y at *
      generalize wo x y = x' at *
      generalize adv r lo 1 = lo' at *
      generalize low (r.drop lo) (lst (x : Int) 64).length = q at *
      rw [List.append_assoc, List.cons_append, List.nil_append] at ih'
      have hb : (out.length + 1) * 8 ≤ 140737488355328 := by omega
      have hb2 : out.length + 1 ≤ 140737488355328 := by omega
      unfold c111_k0
      refine W_round hc ?_
      unfold c111_l0
      repeat (first | refine W_assoc ?_ | (show W _ (.seq (.region _ _) _) _ _; refine W_reg (by simp; with_reducible rfl) ?_) | (show R _ _ _ (_ :: _) _ _ _ _; refine R_op (by simp (maxSteps := 2000000) [h0, h1, v1, v2, v3, v4, hb, hb2]; with_reducible rfl) ?_) | (show R _ _ _ [] _ _ _ _; refine R_nil (by simp; with_reducible rfl) ?_) | (show W _ (.seq (.cond _ _ _) _) _ _; first | refine W_ct (by first | (simp [h0, h1, v1, v2, v3, v4, hb, hb2]; done) | fail) ?_ | refine W_cf (by first | (simp [h0, h1, v1, v2, v3, v4, hb, hb2]; done) | fail) ?_) | refine W_skip ?_ | refine W_bl (c := .seq _ _) ?_ | refine W_bl (c := .region _ _) ?_ | refine W_bl (c := .cond _ _ _) ?_ | refine W_bl (c := .block _ _) ?_ | refine W_rt ?_ | refine W_ex ?_ | refine W_end ?_ | refine W_tail (a := .region _ _) ?_ | refine W_tail (a := .cond _ _ _) ?_ | refine W_tail (a := .ret) ?_ | refine W_tail (a := .exit _) ?_ | refine W_tail (a := .block _ _) ?_ | refine QB_normal ?_ | refine QB_exit ?_ | refine QB_ret ?_ | refine QB_out (by decide) ?_ | refine QL_next ?_ | refine QL_exit ?_ | refine QL_ret ?_ | refine QL_out (by decide) ?_ | (show Fin _ _ .ret _; exact Fin_ret (by first | (simp; done) | (simp; with_reducible rfl))) | (show Fin _ _ .normal _; exact Fin_end (by first | (simp; done) | (simp; with_reducible rfl))))
      refine ih' _ ?_ ?_ ?_ ?_ ?_
      · simp; omega
      · exact hwl
      · exact ha
      · simp; omega
      · simp

theorem F_some (r : List Int) (hr : ∀ y ∈ r, 0 ≤ y ∧ y < 18446744073709551616) (lo : Nat) (hlo : lo ≤ r.length) (x : Nat) (hx : x < 18446744073709551616) (k : Int) :
    F T 111 [.int .u64 x, .int .i64 k, .fn (.func 50) [.ref 0 0 0] []] [tv lo (r.length - lo), tr r] =
      some (.own 2 0 (sel k.toNat (r.drop lo) x).1.length, [tv (adv r lo (min k.toNat (lst (x : Int) 64).length)) (r.length - adv r lo (min k.toNat (lst (x : Int) 64).length)), tr r, ⟨3, 1, false, enc (eInt .i64) (sel k.toNat (r.drop lo) x).1, 0⟩]) := by
  refine F_W T111 ?_
  simp only [c111, c111_b, Lift.start]
  repeat (first | refine W_assoc ?_ | (show W _ (.seq (.region _ _) _) _ _; refine W_reg (by simp; with_reducible rfl) ?_) | (show R _ _ _ (_ :: _) _ _ _ _; refine R_op (by simp (maxSteps := 2000000); with_reducible rfl) ?_) | (show R _ _ _ [] _ _ _ _; refine R_nil (by simp; with_reducible rfl) ?_) | (show W _ (.seq (.cond _ _ _) _) _ _; first | refine W_ct (by first | (simp; done) | fail) ?_ | refine W_cf (by first | (simp; done) | fail) ?_) | refine W_skip ?_ | refine W_bl (c := .seq _ _) ?_ | refine W_bl (c := .region _ _) ?_ | refine W_bl (c := .cond _ _ _) ?_ | refine W_bl (c := .block _ _) ?_ | refine W_rt ?_ | refine W_ex ?_ | refine W_end ?_ | refine W_tail (a := .region _ _) ?_ | refine W_tail (a := .cond _ _ _) ?_ | refine W_tail (a := .ret) ?_ | refine W_tail (a := .exit _) ?_ | refine W_tail (a := .block _ _) ?_ | refine QB_normal ?_ | refine QB_exit ?_ | refine QB_ret ?_ | refine QB_out (by decide) ?_ | refine QL_next ?_ | refine QL_exit ?_ | refine QL_ret ?_ | refine QL_out (by decide) ?_ | (show Fin _ _ .ret _; exact Fin_ret (by first | (simp; done) | (simp; with_reducible rfl))) | (show Fin _ _ .normal _; exact Fin_end (by first | (simp; done) | (simp; with_reducible rfl))))
  have := some_loop r hr k k.toNat x lo []
  simp only [List.nil_append] at this
  refine this _ ?_ ?_ ?_ ?_ ?_
  · simp
  · exact hx
  · exact hlo
  · have := lst_len x 64; simp; omega
  · simp

theorem F_Some (r : List Int) (hr : ∀ y ∈ r, 0 ≤ y ∧ y < 18446744073709551616) (lo : Nat) (hlo : lo ≤ r.length) (x : Nat) (hx : x < 18446744073709551616) (k : Int) :
    F T 46 [.ref 0 0 0, .int .u64 x, .int .i64 k] [tv lo (r.length - lo), tr r] =
      some (.own 2 0 (sel k.toNat (r.drop lo) x).1.length, [tv (adv r lo (min k.toNat (lst (x : Int) 64).length)) (r.length - adv r lo (min k.toNat (lst (x : Int) 64).length)), tr r, ⟨3, 1, false, enc (eInt .i64) (sel k.toNat (r.drop lo) x).1, 0⟩]) := by
  have v1 := F_some r hr lo hlo x hx k
  generalize adv r lo (min k.toNat (lst (x : Int) 64).length) = lo' at *
  refine F_W T46 ?_
  simp only [c46, c46_b, Lift.start]
  repeat (first | refine W_assoc ?_ | (show W _ (.seq (.region _ _) _) _ _; refine W_reg (by simp; with_reducible rfl) ?_) | (show R _ _ _ (_ :: _) _ _ _ _; refine R_op (by simp (maxSteps := 2000000) [v1]; with_reducible rfl) ?_) | (show R _ _ _ [] _ _ _ _; refine R_nil (by simp; with_reducible rfl) ?_) | (show W _ (.seq (.cond _ _ _) _) _ _; first | refine W_ct (by first | (simp [v1]; done) | fail) ?_ | refine W_cf (by first | (simp [v1]; done) | fail) ?_) | refine W_skip ?_ | refine W_bl (c := .seq _ _) ?_ | refine W_bl (c := .region _ _) ?_ | refine W_bl (c := .cond _ _ _) ?_ | refine W_bl (c := .block _ _) ?_ | refine W_rt ?_ | refine W_ex ?_ | refine W_end ?_ | refine W_tail (a := .region _ _) ?_ | refine W_tail (a := .cond _ _ _) ?_ | refine W_tail (a := .ret) ?_ | refine W_tail (a := .exit _) ?_ | refine W_tail (a := .block _ _) ?_ | refine QB_normal ?_ | refine QB_exit ?_ | refine QB_ret ?_ | refine QB_out (by decide) ?_ | refine QL_next ?_ | refine QL_exit ?_ | refine QL_ret ?_ | refine QL_out (by decide) ?_ | (show Fin _ _ .ret _; exact Fin_ret (by first | (simp [c46]; done) | (simp [c46]; with_reducible rfl))) | (show Fin _ _ .normal _; exact Fin_end (by first | (simp [c46]; done) | (simp [c46]; with_reducible rfl))))

end Go.Proofs.Ytnobgooojbppbaa.Flock
