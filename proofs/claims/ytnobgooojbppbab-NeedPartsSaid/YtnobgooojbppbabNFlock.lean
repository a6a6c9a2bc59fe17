/- Sets of small numbers: what the program's and the document's functions come to. -/
import Derived.Test.YtnobgooojbppbabTND
import Derived.Test.YtnobgooojbppbabBase
import Derived.Test.YtnobgooojbppbabFlockPure
set_option linter.all false
set_option linter.unusedSimpArgs false
set_option maxRecDepth 100000
set_option maxHeartbeats 2000000
namespace Go.Proofs.Ytnobgooojbppbab.Flock
open Go Go.RowKit Go.Proofs.Ytnobgooojbppbab.Lift Go.Proofs.Ytnobgooojbppbab.TND Go.Proofs.Ytnobgooojbppbab.Base Go.Proofs.Ytnobgooojbppbab.FlockIn

theorem wrapU (x : Nat) (h : x < 18446744073709551616) : IntKind.u64.wrap (x : Int) = x := IntWalk.u64_in _ (by omega)

theorem shr_and (x m : Nat) (hx : x < 18446744073709551616) (hm : m < 64) : decide (IntKind.u64.wrap ↑(((x : Int).fdiv (2 ^ min m IntKind.u64.bits) % 2 ^ IntKind.u64.bits).toNat &&& 1 % 2 ^ IntKind.u64.bits) = 1) = x.testBit m := by
  have hb : IntKind.u64.bits = 64 := rfl
  have h1 : min m 64 = m := by omega
  have h2 : (x : Int).fdiv (2 ^ m) = ((x / 2 ^ m : Nat) : Int) := by
    rw [Int.fdiv_eq_ediv_of_nonneg _ (by exact Int.le_of_lt (Int.pow_pos (by omega)))]
    simp
  have h3 : x / 2 ^ m ≤ x := Nat.div_le_self _ _
  have h4 : (((x / 2 ^ m : Nat) : Int) % 2 ^ 64).toNat = x / 2 ^ m := by
    generalize x / 2 ^ m = d at h3
    omega
  rw [hb, h1, h2, h4, show 1 % 2 ^ 64 = 1 from rfl, Nat.and_one_is_mod, wrapU _ (by omega), Nat.testBit_eq_decide_div_mod_eq]
  have : (((x / 2 ^ m % 2 : Nat) : Int) = 1) ↔ (x / 2 ^ m % 2 = 1) := by omega
  simp only [this]

theorem V_is (k : Int) : FV (F T) 97 [.int .i64 k] = some (.bool (decide (0 ≤ k) && decide (k < 64))) := by
  by_cases h : 0 ≤ k
  · simp only [h, decide_true, Bool.true_and]
    refine FV_W T97 (r := ?r1) (W_fin (ex := .ret) (by simp [c97, c97_b, h]; with_reducible rfl) (by simp) (by first | (simp [c97]; done) | (simp [c97]; with_reducible rfl))) (by simp)
  · simp only [h, decide_false, Bool.false_and]
    refine FV_W T97 (r := ?r2) (W_fin (ex := .ret) (by simp [c97, c97_b, h]; with_reducible rfl) (by simp) (by first | (simp [c97]; done) | (simp [c97]; with_reducible rfl))) (by simp)

theorem V_has (x : Nat) (hx : x < 18446744073709551616) (k : Int) : FV (F T) 140 [.int .u64 x, .int .i64 k] = some (.bool (has x k)) := by
  have h1 := V_is k
  by_cases h : 0 ≤ k ∧ k < 64
  · obtain ⟨m, rfl⟩ := Int.eq_ofNat_of_zero_le h.1
    have hm : m < 64 := by omega
    rw [has_bit x m hm]
    have e1 : (decide (0 ≤ (m : Int)) && decide ((m : Int) < 64)) = true := by simp [h.1, h.2]
    rw [e1] at h1
    have hnn : ¬ (m : Int) < 0 := by omega
    refine FV_W T140 (r := ?r1) ?h1 ?v1
    case h1 =>
      simp only [c140, c140_b, Lift.start]
      repeat (first | refine W_assoc ?_ | (show W _ (.seq (.region _ _) _) _ _; refine W_reg (by simp; with_reducible rfl) ?_) | (show R _ _ _ (_ :: _) _ _ _ _; refine R_op (by simp (maxSteps := 2000000) [h1, hnn]; with_reducible rfl) ?_) | (show R _ _ _ [] _ _ _ _; refine R_nil (by simp; with_reducible rfl) ?_) | (show W _ (.seq (.cond _ _ _) _) _ _; first | refine W_ct (by first | (simp [h1, hnn]; done) | fail) ?_ | refine W_cf (by first | (simp [h1, hnn]; done) | fail) ?_) | refine W_skip ?_ | refine W_bl (c := .seq _ _) ?_ | refine W_bl (c := .region _ _) ?_ | refine W_bl (c := .cond _ _ _) ?_ | refine W_bl (c := .block _ _) ?_ | refine W_rt ?_ | refine W_ex ?_ | refine W_end ?_ | refine W_tail (a := .region _ _) ?_ | refine W_tail (a := .cond _ _ _) ?_ | refine W_tail (a := .ret) ?_ | refine W_tail (a := .exit _) ?_ | refine W_tail (a := .block _ _) ?_ | refine QB_normal ?_ | refine QB_exit ?_ | refine QB_ret ?_ | refine QB_out (by decide) ?_ | refine QL_next ?_ | refine QL_exit ?_ | refine QL_ret ?_ | refine QL_out (by decide) ?_ | (show Fin _ _ .ret _; exact Fin_ret (by first | (simp [c140]; done) | (simp [c140]; with_reducible rfl))) | (show Fin _ _ .normal _; exact Fin_end (by first | (simp [c140]; done) | (simp [c140]; with_reducible rfl))))
    case v1 =>
      have := shr_and x m hx hm
      simp
      simpa using this
  · have e1 : (decide (0 ≤ k) && decide (k < 64)) = false := by
      by_cases h2 : 0 ≤ k
      · have h3 : ¬ k < 64 := fun h3 => h ⟨h2, h3⟩
        simp [h3]
      · simp [h2]
    rw [e1] at h1
    have e2 : has (x : Int) k = false := by
      unfold has
      by_cases h2 : 0 ≤ k
      · have h3 : ¬ k < 64 := fun h3 => h ⟨h2, h3⟩
        simp [h3]
      · simp [h2]
    rw [e2]
    refine FV_W T140 (r := ?r3) (W_fin (ex := .ret) (by simp [c140, c140_b, h1]; with_reducible rfl) (by simp) (by first | (simp [c140]; done) | (simp [c140]; with_reducible rfl))) (by simp)

theorem bit_loop (k : Nat) (hk : k < 64) : ∀ (n i : Nat) (st : ASt), i + n = k → canon [0, 3, 4] st = ⟨[.int .i64 k, .top, .top, .int .u64 (2 ^ i : Nat), .int .i64 i, .top, .top, .top, .top, .top, .top, .top, .top], [], 0, 0⟩ → W T c100_k0 st (Lift.Fin c100 (.int .u64 (2 ^ k : Nat), [])) := by
  intro n
  induction n with
  | zero =>
    intro i st hi hc
    obtain rfl : i = k := by omega
    unfold c100_k0
    refine W_round hc ?_
    unfold c100_l0
    repeat (first | refine W_assoc ?_ | (show W _ (.seq (.region _ _) _) _ _; refine W_reg (by simp; with_reducible rfl) ?_) | (show R _ _ _ (_ :: _) _ _ _ _; refine R_op (by simp (maxSteps := 2000000); with_reducible rfl) ?_) | (show R _ _ _ [] _ _ _ _; refine R_nil (by simp; with_reducible rfl) ?_) | (show W _ (.seq (.cond _ _ _) _) _ _; first | refine W_ct (by first | (simp; done) | fail) ?_ | refine W_cf (by first | (simp; done) | fail) ?_) | refine W_skip ?_ | refine W_bl (c := .seq _ _) ?_ | refine W_bl (c := .region _ _) ?_ | refine W_bl (c := .cond _ _ _) ?_ | refine W_bl (c := .block _ _) ?_ | refine W_rt ?_ | refine W_ex ?_ | refine W_end ?_ | refine W_tail (a := .region _ _) ?_ | refine W_tail (a := .cond _ _ _) ?_ | refine W_tail (a := .ret) ?_ | refine W_tail (a := .exit _) ?_ | refine W_tail (a := .block _ _) ?_ | refine QB_normal ?_ | refine QB_exit ?_ | refine QB_ret ?_ | refine QB_out (by decide) ?_ | refine QL_next ?_ | refine QL_exit ?_ | refine QL_ret ?_ | refine QL_out (by decide) ?_ | (show Fin _ _ .ret _; exact Fin_ret (by first | (simp [c100]; done) | (simp [c100]; with_reducible rfl))) | (show Fin _ _ .normal _; exact Fin_end (by first | (simp [c100]; done) | (simp [c100]; with_reducible rfl))))
  | succ n ih =>
    intro i st hi hc
    have hlt : (i : Int) < k := by omega
    have hlt2 : i < k := by omega
    have hw := wrapS i k hlt2 (by omega)
    have hp : 2 ^ (i + 1) < 2 ^ 64 := pow_lt64 (i + 1) (by omega)
    have hw2 : IntKind.u64.wrap ((2 : Int) ^ i * 2) = ((2 ^ (i + 1) : Nat) : Int) := by
      have : ((2 : Int) ^ i * 2) = ((2 ^ (i + 1) : Nat) : Int) := by rw [Nat.pow_succ]; simp
      rw [this]
      exact wrapU _ hp
    unfold c100_k0
    refine W_round hc ?_
    unfold c100_l0
    repeat (first | refine W_assoc ?_ | (show W _ (.seq (.region _ _) _) _ _; refine W_reg (by simp; with_reducible rfl) ?_) | (show R _ _ _ (_ :: _) _ _ _ _; refine R_op (by simp (maxSteps := 2000000) [hlt, hlt2, hw, hw2]; with_reducible rfl) ?_) | (show R _ _ _ [] _ _ _ _; refine R_nil (by simp; with_reducible rfl) ?_) | (show W _ (.seq (.cond _ _ _) _) _ _; first | refine W_ct (by first | (simp [hlt, hlt2, hw, hw2]; done) | fail) ?_ | refine W_cf (by first | (simp [hlt, hlt2, hw, hw2]; done) | fail) ?_) | refine W_skip ?_ | refine W_bl (c := .seq _ _) ?_ | refine W_bl (c := .region _ _) ?_ | refine W_bl (c := .cond _ _ _) ?_ | refine W_bl (c := .block _ _) ?_ | refine W_rt ?_ | refine W_ex ?_ | refine W_end ?_ | refine W_tail (a := .region _ _) ?_ | refine W_tail (a := .cond _ _ _) ?_ | refine W_tail (a := .ret) ?_ | refine W_tail (a := .exit _) ?_ | refine W_tail (a := .block _ _) ?_ | refine QB_normal ?_ | refine QB_exit ?_ | refine QB_ret ?_ | refine QB_out (by decide) ?_ | refine QL_next ?_ | refine QL_exit ?_ | refine QL_ret ?_ | refine QL_out (by decide) ?_ | (show Fin _ _ .ret _; exact Fin_ret (by first | (simp; done) | (simp; with_reducible rfl))) | (show Fin _ _ .normal _; exact Fin_end (by first | (simp; done) | (simp; with_reducible rfl))))
    exact ih (i + 1) _ (by omega) (by simp; try rfl)

theorem V_bit (k : Nat) (hk : k < 64) : FV (F T) 100 [.int .i64 k] = some (.int .u64 (2 ^ k : Nat)) := by
  have h : F T 100 [.int .i64 k] [] = some (.int .u64 (2 ^ k : Nat), []) := by
    refine F_W T100 ?_
    simp only [c100, c100_b, Lift.start]
    repeat (first | refine W_assoc ?_ | (show W _ (.seq (.region _ _) _) _ _; refine W_reg (by simp; with_reducible rfl) ?_) | (show R _ _ _ (_ :: _) _ _ _ _; refine R_op (by simp (maxSteps := 2000000); with_reducible rfl) ?_) | (show R _ _ _ [] _ _ _ _; refine R_nil (by simp; with_reducible rfl) ?_) | (show W _ (.seq (.cond _ _ _) _) _ _; first | refine W_ct (by first | (simp; done) | fail) ?_ | refine W_cf (by first | (simp; done) | fail) ?_) | refine W_skip ?_ | refine W_bl (c := .seq _ _) ?_ | refine W_bl (c := .region _ _) ?_ | refine W_bl (c := .cond _ _ _) ?_ | refine W_bl (c := .block _ _) ?_ | refine W_rt ?_ | refine W_ex ?_ | refine W_end ?_ | refine W_tail (a := .region _ _) ?_ | refine W_tail (a := .cond _ _ _) ?_ | refine W_tail (a := .ret) ?_ | refine W_tail (a := .exit _) ?_ | refine W_tail (a := .block _ _) ?_ | refine QB_normal ?_ | refine QB_exit ?_ | refine QB_ret ?_ | refine QB_out (by decide) ?_ | refine QL_next ?_ | refine QL_exit ?_ | refine QL_ret ?_ | refine QL_out (by decide) ?_ | (show Fin _ _ .ret _; exact Fin_ret (by first | (simp; done) | (simp; with_reducible rfl))) | (show Fin _ _ .normal _; exact Fin_end (by first | (simp; done) | (simp; with_reducible rfl))))
    exact bit_loop k hk k 0 _ (by simp) (by simp; try rfl)
  simpa using FV_of h

theorem V_R05has (x : Nat) (hx : x < 18446744073709551616) (k : Int) : FV (F T) 98 [.int .u64 x, .int .i64 k] = some (.bool (has x k)) := by
  by_cases h1 : 0 ≤ k
  · by_cases h2 : k < 64
    · obtain ⟨m, rfl⟩ := Int.eq_ofNat_of_zero_le h1
      have hm : m < 64 := by omega
      have hb := V_bit m hm
      have hp : 0 < 2 ^ m := Nat.pow_pos (by omega)
      have h3 : ¬ ((2 ^ m : Nat) : Int) = 0 := by omega
      have h4 : ((x : Int).tdiv ((2 ^ m : Nat) : Int)) = ((x / 2 ^ m : Nat) : Int) := by
        rw [Int.tdiv_eq_ediv_of_nonneg (Int.natCast_nonneg _)]; simp
      have h5 : IntKind.u64.wrap ((x / 2 ^ m : Nat) : Int) = ((x / 2 ^ m : Nat) : Int) := wrapU _ (Nat.lt_of_le_of_lt (Nat.div_le_self x (2 ^ m)) hx)
      have h6 : ((x / 2 ^ m : Nat) : Int).tmod 2 = ((x / 2 ^ m % 2 : Nat) : Int) := by
        rw [Int.tmod_eq_emod_of_nonneg (Int.natCast_nonneg _)]; simp
      have e : has (x : Int) (m : Int) = decide (((x / 2 ^ m % 2 : Nat) : Int) = 1) := by
        rw [has_bit x m hm, Nat.testBit_eq_decide_div_mod_eq]
        have : (((x / 2 ^ m % 2 : Nat) : Int) = 1) ↔ (x / 2 ^ m % 2 = 1) := by omega
        simp only [this]
      rw [e]
      generalize hq : ((2 ^ m : Nat) : Int) = q at *
      generalize hd : ((x / 2 ^ m : Nat) : Int) = d at *
      generalize hd2 : ((x / 2 ^ m % 2 : Nat) : Int) = d2 at *
      refine FV_W T98 (r := ?r2) ?h2 ?v2
      case h2 =>
        simp only [c98, c98_b, Lift.start]
        repeat (first | refine W_assoc ?_ | (show W _ (.seq (.region _ _) _) _ _; refine W_reg (by simp; with_reducible rfl) ?_) | (show R _ _ _ (_ :: _) _ _ _ _; refine R_op (by simp (maxSteps := 2000000) [h1, h2, hb, h3, h4, h5, h6]; with_reducible rfl) ?_) | (show R _ _ _ [] _ _ _ _; refine R_nil (by simp; with_reducible rfl) ?_) | (show W _ (.seq (.cond _ _ _) _) _ _; first | refine W_ct (by first | (simp [h1, h2, hb, h3, h4, h5, h6]; done) | fail) ?_ | refine W_cf (by first | (simp [h1, h2, hb, h3, h4, h5, h6]; done) | fail) ?_) | refine W_skip ?_ | refine W_bl (c := .seq _ _) ?_ | refine W_bl (c := .region _ _) ?_ | refine W_bl (c := .cond _ _ _) ?_ | refine W_bl (c := .block _ _) ?_ | refine W_rt ?_ | refine W_ex ?_ | refine W_end ?_ | refine W_tail (a := .region _ _) ?_ | refine W_tail (a := .cond _ _ _) ?_ | refine W_tail (a := .ret) ?_ | refine W_tail (a := .exit _) ?_ | refine W_tail (a := .block _ _) ?_ | refine QB_normal ?_ | refine QB_exit ?_ | refine QB_ret ?_ | refine QB_out (by decide) ?_ | refine QL_next ?_ | refine QL_exit ?_ | refine QL_ret ?_ | refine QL_out (by decide) ?_ | (show Fin _ _ .ret _; exact Fin_ret (by first | (simp [c98]; done) | (simp [c98]; with_reducible rfl))) | (show Fin _ _ .normal _; exact Fin_end (by first | (simp [c98]; done) | (simp [c98]; with_reducible rfl))))
      case v2 => simp
    · have e : has (x : Int) k = false := by unfold has; simp [h2]
      rw [e]
      refine FV_W T98 (r := ?r3) ?h3 ?v3
      case h3 =>
        simp only [c98, c98_b, Lift.start]
        repeat (first | refine W_assoc ?_ | (show W _ (.seq (.region _ _) _) _ _; refine W_reg (by simp; with_reducible rfl) ?_) | (show R _ _ _ (_ :: _) _ _ _ _; refine R_op (by simp (maxSteps := 2000000) [h1, h2]; with_reducible rfl) ?_) | (show R _ _ _ [] _ _ _ _; refine R_nil (by simp; with_reducible rfl) ?_) | (show W _ (.seq (.cond _ _ _) _) _ _; first | refine W_ct (by first | (simp [h1, h2]; done) | fail) ?_ | refine W_cf (by first | (simp [h1, h2]; done) | fail) ?_) | refine W_skip ?_ | refine W_bl (c := .seq _ _) ?_ | refine W_bl (c := .region _ _) ?_ | refine W_bl (c := .cond _ _ _) ?_ | refine W_bl (c := .block _ _) ?_ | refine W_rt ?_ | refine W_ex ?_ | refine W_end ?_ | refine W_tail (a := .region _ _) ?_ | refine W_tail (a := .cond _ _ _) ?_ | refine W_tail (a := .ret) ?_ | refine W_tail (a := .exit _) ?_ | refine W_tail (a := .block _ _) ?_ | refine QB_normal ?_ | refine QB_exit ?_ | refine QB_ret ?_ | refine QB_out (by decide) ?_ | refine QL_next ?_ | refine QL_exit ?_ | refine QL_ret ?_ | refine QL_out (by decide) ?_ | (show Fin _ _ .ret _; exact Fin_ret (by first | (simp [c98]; done) | (simp [c98]; with_reducible rfl))) | (show Fin _ _ .normal _; exact Fin_end (by first | (simp [c98]; done) | (simp [c98]; with_reducible rfl))))
      case v3 => simp
  · have e : has (x : Int) k = false := by unfold has; simp [h1]
    rw [e]
    refine FV_W T98 (r := ?r4) ?h4 ?v4
    case h4 =>
      simp only [c98, c98_b, Lift.start]
      repeat (first | refine W_assoc ?_ | (show W _ (.seq (.region _ _) _) _ _; refine W_reg (by simp; with_reducible rfl) ?_) | (show R _ _ _ (_ :: _) _ _ _ _; refine R_op (by simp (maxSteps := 2000000) [h1]; with_reducible rfl) ?_) | (show R _ _ _ [] _ _ _ _; refine R_nil (by simp; with_reducible rfl) ?_) | (show W _ (.seq (.cond _ _ _) _) _ _; first | refine W_ct (by first | (simp [h1]; done) | fail) ?_ | refine W_cf (by first | (simp [h1]; done) | fail) ?_) | refine W_skip ?_ | refine W_bl (c := .seq _ _) ?_ | refine W_bl (c := .region _ _) ?_ | refine W_bl (c := .cond _ _ _) ?_ | refine W_bl (c := .block _ _) ?_ | refine W_rt ?_ | refine W_ex ?_ | refine W_end ?_ | refine W_tail (a := .region _ _) ?_ | refine W_tail (a := .cond _ _ _) ?_ | refine W_tail (a := .ret) ?_ | refine W_tail (a := .exit _) ?_ | refine W_tail (a := .block _ _) ?_ | refine QB_normal ?_ | refine QB_exit ?_ | refine QB_ret ?_ | refine QB_out (by decide) ?_ | refine QL_next ?_ | refine QL_exit ?_ | refine QL_ret ?_ | refine QL_out (by decide) ?_ | (show Fin _ _ .ret _; exact Fin_ret (by first | (simp [c98]; done) | (simp [c98]; with_reducible rfl))) | (show Fin _ _ .normal _; exact Fin_end (by first | (simp [c98]; done) | (simp [c98]; with_reducible rfl))))
    case v4 => simp

theorem R06_In_loop (l : List Int) (j : Int) (hl : l.length ≤ 140737488355328) :
    ∀ (k i : Nat) (st : ASt), i + k = l.length → canon [0, 1, 5] st = ⟨[.ro 1 (enc (eInt .i64) l) false, .int .i64 j, .top, .top, .top, .int .i64 i, .top, .top, .top, .top, .top, .top, .top, .top, .top, .top, .top, .top], [], 0, 0⟩ → W T c99_k0 st (Lift.Fin c99 (.bool ((l.drop i).any fun x => decide (x = j)), [])) := by
  intro k
  induction k with
  | zero =>
    intro i st hi hc
    have h1 : ¬ i < l.length := by omega
    have e1 : l.drop i = [] := List.drop_of_length_le (by omega)
    unfold c99_k0
    refine W_exit (by rw [hc]; simp (maxSteps := 2000000) [c99_l0, h1]; with_reducible rfl) ?_
    exact W_fin (ex := .ret) (by simp (maxSteps := 2000000); with_reducible rfl) (by simp) (by first | (simp [c99, e1]; done) | (simp [c99, e1]; with_reducible rfl))
  | succ k ih =>
    intro i st hi hc
    have hlt : i < l.length := by omega
    have hw := wrapS i _ hlt hl
    have d1 := List.drop_eq_getElem_cons hlt
    unfold c99_k0
    by_cases he : (fun x : Int => decide (x = j)) l[i] = true
    · simp only [d1, List.any_cons]
      simp only [] at he
      rw [he]
      simp at he
      exact W_ret (by rw [hc]; simp (maxSteps := 2000000) [c99_l0, hlt, he]; with_reducible rfl) (Fin_ret (by simp [c99]))
    · simp only [d1, List.any_cons]
      simp only [Bool.not_eq_true] at he
      rw [he]
      simp at he
      refine W_next (by rw [hc]; simp (maxSteps := 2000000) [c99_l0, hlt, hw, he]; with_reducible rfl) ?_
      exact ih (i + 1) _ (by omega) (by simp)

theorem V_in (l : List Int) (hl : l.length ≤ 1000000) (j : Int) : FV (F T) 99 [.ro 1 (enc (eInt .i64) l) false, .int .i64 j] = some (.bool (l.any fun x => decide (x = j))) := by
  have h : F T 99 [.ro 1 (enc (eInt .i64) l) false, .int .i64 j] [] = some (.bool (l.any fun x => decide (x = j)), []) := by
    refine F_W T99 ?_
    simp only [c99, c99_b, Lift.start]
    repeat (first | refine W_assoc ?_ | refine W_go (a := .region _ _) (by simp (maxSteps := 2000000); with_reducible rfl) ?_ | refine W_go (a := .cond _ _ _) (by simp (maxSteps := 2000000); with_reducible rfl) ?_ | refine W_go (a := .block _ (.seq _ _)) (by simp (maxSteps := 2000000); with_reducible rfl) ?_)
    exact R06_In_loop l j (by omega) l.length 0 _ (by simp) (by simp)
  simpa using FV_of h

/-- Of, as values. -/
def ofL (l : List Int) (j : Nat) : Bool := l.any fun x => decide (x = (j : Int))

theorem of_loop (l : List Int) (hl : l.length ≤ 1000000) : ∀ (n i : Nat) (st : ASt), i + n = 64 → canon [0, 3, 4] st = ⟨[.ro 1 (enc (eInt .i64) l) false, .top, .top, .int .u64 (ofN (ofL l) i), .int .i64 i, .top, .top, .top, .top, .top, .top, .top, .top, .top, .top, .top, .top], [], 0, 0⟩ →
    W T c70_k0 st (Lift.Fin c70 (.int .u64 (ofN (ofL l) 64), [])) := by
  intro n
  induction n with
  | zero =>
    intro i st hi hc
    obtain rfl : i = 64 := by omega
    unfold c70_k0
    refine W_round hc ?_
    unfold c70_l0
    repeat (first | refine W_assoc ?_ | (show W _ (.seq (.region _ _) _) _ _; refine W_reg (by simp; with_reducible rfl) ?_) | (show R _ _ _ (_ :: _) _ _ _ _; refine R_op (by simp (maxSteps := 2000000); with_reducible rfl) ?_) | (show R _ _ _ [] _ _ _ _; refine R_nil (by simp; with_reducible rfl) ?_) | (show W _ (.seq (.cond _ _ _) _) _ _; first | refine W_ct (by first | (simp; done) | fail) ?_ | refine W_cf (by first | (simp; done) | fail) ?_) | refine W_skip ?_ | refine W_bl (c := .seq _ _) ?_ | refine W_bl (c := .region _ _) ?_ | refine W_bl (c := .cond _ _ _) ?_ | refine W_bl (c := .block _ _) ?_ | refine W_rt ?_ | refine W_ex ?_ | refine W_end ?_ | refine W_tail (a := .region _ _) ?_ | refine W_tail (a := .cond _ _ _) ?_ | refine W_tail (a := .ret) ?_ | refine W_tail (a := .exit _) ?_ | refine W_tail (a := .block _ _) ?_ | refine QB_normal ?_ | refine QB_exit ?_ | refine QB_ret ?_ | refine QB_out (by decide) ?_ | refine QL_next ?_ | refine QL_exit ?_ | refine QL_ret ?_ | refine QL_out (by decide) ?_ | (show Fin _ _ .ret _; exact Fin_ret (by first | (simp [c70]; done) | (simp [c70]; with_reducible rfl))) | (show Fin _ _ .normal _; exact Fin_end (by first | (simp [c70]; done) | (simp [c70]; with_reducible rfl))))
  | succ n ih =>
    intro i st hi hc
    have hlt : (i : Int) < 64 := by omega
    have hlt2 : i < 64 := by omega
    have hw := wrapS i 64 hlt2 (by omega)
    have h1 := V_in l hl i
    have h2 := V_bit i hlt2
    have hs : ofN (ofL l) (i + 1) = ofN (ofL l) i + (if ofL l i then 2 ^ i else 0) := rfl
    have hle := ofN_le (ofL l) (i + 1) 64 (by omega)
    have h64 := ofN64_lt (ofL l)
    have he : (l.any fun x => decide (x = (i : Int))) = ofL l i := rfl
    rw [he] at h1
    unfold c70_k0
    refine W_round hc ?_
    unfold c70_l0
    cases hh : ofL l i with
    | true =>
      rw [hh] at h1 hs
      simp only [if_true] at hs
      have hadd : IntKind.u64.wrap ((ofN (ofL l) i : Int) + ((2 ^ i : Nat) : Int)) = (ofN (ofL l) (i + 1) : Int) := by
        rw [hs, show ((ofN (ofL l) i : Int) + ((2 ^ i : Nat) : Int)) = ((ofN (ofL l) i + 2 ^ i : Nat) : Int) by simp]
        exact wrapU _ (by omega)
      generalize ((2 ^ i : Nat) : Int) = q at h2 hadd
      repeat (first | refine W_assoc ?_ | (show W _ (.seq (.region _ _) _) _ _; refine W_reg (by simp; with_reducible rfl) ?_) | (show R _ _ _ (_ :: _) _ _ _ _; refine R_op (by simp (maxSteps := 2000000) [hlt, hlt2, hw, h1, h2, hadd]; with_reducible rfl) ?_) | (show R _ _ _ [] _ _ _ _; refine R_nil (by simp; with_reducible rfl) ?_) | (show W _ (.seq (.cond _ _ _) _) _ _; first | refine W_ct (by first | (simp [hlt, hlt2, hw, h1, h2, hadd]; done) | fail) ?_ | refine W_cf (by first | (simp [hlt, hlt2, hw, h1, h2, hadd]; done) | fail) ?_) | refine W_skip ?_ | refine W_bl (c := .seq _ _) ?_ | refine W_bl (c := .region _ _) ?_ | refine W_bl (c := .cond _ _ _) ?_ | refine W_bl (c := .block _ _) ?_ | refine W_rt ?_ | refine W_ex ?_ | refine W_end ?_ | refine W_tail (a := .region _ _) ?_ | refine W_tail (a := .cond _ _ _) ?_ | refine W_tail (a := .ret) ?_ | refine W_tail (a := .exit _) ?_ | refine W_tail (a := .block _ _) ?_ | refine QB_normal ?_ | refine QB_exit ?_ | refine QB_ret ?_ | refine QB_out (by decide) ?_ | refine QL_next ?_ | refine QL_exit ?_ | refine QL_ret ?_ | refine QL_out (by decide) ?_ | (show Fin _ _ .ret _; exact Fin_ret (by first | (simp; done) | (simp; with_reducible rfl))) | (show Fin _ _ .normal _; exact Fin_end (by first | (simp; done) | (simp; with_reducible rfl))))
      exact ih (i + 1) _ (by omega) (by simp; try rfl)
    | false =>
      rw [hh] at h1 hs
      simp only [Bool.false_eq_true, if_false, Nat.add_zero] at hs
      repeat (first | refine W_assoc ?_ | (show W _ (.seq (.region _ _) _) _ _; refine W_reg (by simp; with_reducible rfl) ?_) | (show R _ _ _ (_ :: _) _ _ _ _; refine R_op (by simp (maxSteps := 2000000) [hlt, hlt2, hw, h1]; with_reducible rfl) ?_) | (show R _ _ _ [] _ _ _ _; refine R_nil (by simp; with_reducible rfl) ?_) | (show W _ (.seq (.cond _ _ _) _) _ _; first | refine W_ct (by first | (simp [hlt, hlt2, hw, h1]; done) | fail) ?_ | refine W_cf (by first | (simp [hlt, hlt2, hw, h1]; done) | fail) ?_) | refine W_skip ?_ | refine W_bl (c := .seq _ _) ?_ | refine W_bl (c := .region _ _) ?_ | refine W_bl (c := .cond _ _ _) ?_ | refine W_bl (c := .block _ _) ?_ | refine W_rt ?_ | refine W_ex ?_ | refine W_end ?_ | refine W_tail (a := .region _ _) ?_ | refine W_tail (a := .cond _ _ _) ?_ | refine W_tail (a := .ret) ?_ | refine W_tail (a := .exit _) ?_ | refine W_tail (a := .block _ _) ?_ | refine QB_normal ?_ | refine QB_exit ?_ | refine QB_ret ?_ | refine QB_out (by decide) ?_ | refine QL_next ?_ | refine QL_exit ?_ | refine QL_ret ?_ | refine QL_out (by decide) ?_ | (show Fin _ _ .ret _; exact Fin_ret (by first | (simp; done) | (simp; with_reducible rfl))) | (show Fin _ _ .normal _; exact Fin_end (by first | (simp; done) | (simp; with_reducible rfl))))
      exact ih (i + 1) _ (by omega) (by rw [hs]; simp; try rfl)

theorem F_R06of (l : List Int) (hl : l.length ≤ 1000000) : F T 70 [.ro 1 (enc (eInt .i64) l) false] [] = some (.int .u64 (ofN (ofL l) 64), []) := by
  refine F_W T70 ?_
  simp only [c70, c70_b, Lift.start]
  repeat (first | refine W_assoc ?_ | (show W _ (.seq (.region _ _) _) _ _; refine W_reg (by simp; with_reducible rfl) ?_) | (show R _ _ _ (_ :: _) _ _ _ _; refine R_op (by simp (maxSteps := 2000000); with_reducible rfl) ?_) | (show R _ _ _ [] _ _ _ _; refine R_nil (by simp; with_reducible rfl) ?_) | (show W _ (.seq (.cond _ _ _) _) _ _; first | refine W_ct (by first | (simp; done) | fail) ?_ | refine W_cf (by first | (simp; done) | fail) ?_) | refine W_skip ?_ | refine W_bl (c := .seq _ _) ?_ | refine W_bl (c := .region _ _) ?_ | refine W_bl (c := .cond _ _ _) ?_ | refine W_bl (c := .block _ _) ?_ | refine W_rt ?_ | refine W_ex ?_ | refine W_end ?_ | refine W_tail (a := .region _ _) ?_ | refine W_tail (a := .cond _ _ _) ?_ | refine W_tail (a := .ret) ?_ | refine W_tail (a := .exit _) ?_ | refine W_tail (a := .block _ _) ?_ | refine QB_normal ?_ | refine QB_exit ?_ | refine QB_ret ?_ | refine QB_out (by decide) ?_ | refine QL_next ?_ | refine QL_exit ?_ | refine QL_ret ?_ | refine QL_out (by decide) ?_ | (show Fin _ _ .ret _; exact Fin_ret (by first | (simp; done) | (simp; with_reducible rfl))) | (show Fin _ _ .normal _; exact Fin_end (by first | (simp; done) | (simp; with_reducible rfl))))
  exact of_loop l hl 64 0 _ (by omega) (by simp [ofN]; try rfl)

theorem V_R06of (l : List Int) (hl : l.length ≤ 1000000) : FV (F T) 70 [.ro 1 (enc (eInt .i64) l) false] = some (.int .u64 (ofN (ofL l) 64)) := by
  have h : F T 70 [.ro 1 (enc (eInt .i64) l) false] [] = some (.int .u64 (ofN (ofL l) 64), []) := by
    refine F_W T70 ?_
    simp only [c70, c70_b, Lift.start]
    repeat (first | refine W_assoc ?_ | (show W _ (.seq (.region _ _) _) _ _; refine W_reg (by simp; with_reducible rfl) ?_) | (show R _ _ _ (_ :: _) _ _ _ _; refine R_op (by simp (maxSteps := 2000000); with_reducible rfl) ?_) | (show R _ _ _ [] _ _ _ _; refine R_nil (by simp; with_reducible rfl) ?_) | (show W _ (.seq (.cond _ _ _) _) _ _; first | refine W_ct (by first | (simp; done) | fail) ?_ | refine W_cf (by first | (simp; done) | fail) ?_) | refine W_skip ?_ | refine W_bl (c := .seq _ _) ?_ | refine W_bl (c := .region _ _) ?_ | refine W_bl (c := .cond _ _ _) ?_ | refine W_bl (c := .block _ _) ?_ | refine W_rt ?_ | refine W_ex ?_ | refine W_end ?_ | refine W_tail (a := .region _ _) ?_ | refine W_tail (a := .cond _ _ _) ?_ | refine W_tail (a := .ret) ?_ | refine W_tail (a := .exit _) ?_ | refine W_tail (a := .block _ _) ?_ | refine QB_normal ?_ | refine QB_exit ?_ | refine QB_ret ?_ | refine QB_out (by decide) ?_ | refine QL_next ?_ | refine QL_exit ?_ | refine QL_ret ?_ | refine QL_out (by decide) ?_ | (show Fin _ _ .ret _; exact Fin_ret (by first | (simp; done) | (simp; with_reducible rfl))) | (show Fin _ _ .normal _; exact Fin_end (by first | (simp; done) | (simp; with_reducible rfl))))
    exact of_loop l hl 64 0 _ (by omega) (by simp [ofN]; try rfl)
  simpa using FV_of h

end Go.Proofs.Ytnobgooojbppbab.Flock
