/- The ear's law. -/
import Derived.Test.YtnobgooojbppbaaBeat
set_option linter.all false
set_option maxRecDepth 100000
set_option maxHeartbeats 2000000
namespace Go.Proofs.Ytnobgooojbppbaa.Beat
open Go Go.RowKit Go.Proofs.Ytnobgooojbppbaa.Lift Go.Proofs.Ytnobgooojbppbaa.TB Go.Proofs.Ytnobgooojbppbaa.Base

theorem rtick_loop (s le : Int) (l : List Int) (hl : l.length ≤ 1000000) :
    ∀ (k i : Nat) (r : List Int) (st : ASt), i + k = l.length → r.length = i → canon [1, 2, 3, 4] st = ⟨[.top, .ref 0 0 0, .ref 1 0 0, .own 2 0 r.length, .int .i64 i, .top, .top, .top, .top, .top, .top, .top, .top, .top, .top, .top, .top, .top, .top, .top, .top, .top, .top, .top, .top, .top, .top, .top, .top, .top, .top], [(0, ⟨24, 3, true, [[.int .i64 s, .int .i64 le, .ro 1 (enc (eInt .i64) l) false]], 0⟩), (1, ⟨24, 3, true, [[.int .i64 0, .int .i64 0, .ro 1 [] true]], 0⟩), (2, ⟨3, 1, false, enc (eInt .i64) r, 0⟩)], 3, 0⟩ →
      W T c19_k0 st (Lift.Fin c19 (.agg [.int .i64 s, .int .i64 le, .own 0 0 (r ++ (l.drop i).map (tk le)).length], [⟨3, 1, false, enc (eInt .i64) (r ++ (l.drop i).map (tk le)), 0⟩])) := by
  intro k
  induction k with
  | zero =>
    intro i r st hi hr hc
    have h1 : ¬ i < l.length := by omega
    have e1 : l.drop i = [] := List.drop_of_length_le (by omega)
    rw [e1, List.map_nil, List.append_nil]
    unfold c19_k0
    refine W_round hc ?_
    unfold c19_l0
    repeat (first | refine W_assoc ?_ | (show W _ (.seq (.region _ _) _) _ _; refine W_reg (by simp; with_reducible rfl) ?_) | (show R _ _ _ (_ :: _) _ _ _ _; refine R_op (by simp (maxSteps := 2000000) [h1]; with_reducible rfl) ?_) | (show R _ _ _ [] _ _ _ _; refine R_nil (by simp; with_reducible rfl) ?_) | (show W _ (.seq (.cond _ _ _) _) _ _; first | refine W_ct (by first | (simp [h1]; done) | fail) ?_ | refine W_cf (by first | (simp [h1]; done) | fail) ?_) | refine W_skip ?_ | refine W_bl (c := .seq _ _) ?_ | refine W_bl (c := .region _ _) ?_ | refine W_bl (c := .cond _ _ _) ?_ | refine W_bl (c := .block _ _) ?_ | refine W_rt ?_ | refine W_ex ?_ | refine W_end ?_ | refine W_tail (a := .region _ _) ?_ | refine W_tail (a := .cond _ _ _) ?_ | refine W_tail (a := .ret) ?_ | refine W_tail (a := .exit _) ?_ | refine W_tail (a := .block _ _) ?_ | refine QB_normal ?_ | refine QB_exit ?_ | refine QB_ret ?_ | refine QB_out (by decide) ?_ | refine QL_next ?_ | refine QL_exit ?_ | refine QL_ret ?_ | refine QL_out (by decide) ?_ | (show Fin _ _ .ret _; exact Fin_ret (by first | (simp [c19]; done) | (simp [c19]; with_reducible rfl))) | (show Fin _ _ .normal _; exact Fin_end (by first | (simp [c19]; done) | (simp [c19]; with_reducible rfl))))
  | succ k ih =>
    intro i r st hi hr hc
    have hlt : i < l.length := by omega
    have hw := wrapS i _ hlt (by omega)
    have hb : (r.length + 1) * 8 ≤ 140737488355328 := by omega
    have hb2 : r.length + 1 ≤ 140737488355328 := by omega
    unfold c19_k0
    have hre : r ++ (l.drop i).map (tk le) = (r ++ [tk le l[i]]) ++ (l.drop (i + 1)).map (tk le) := by rw [List.drop_eq_getElem_cons hlt, List.map_cons]; simp
    rw [hre]
    by_cases he : l[i] < le
    · have hm : tk le l[i] = IntKind.i64.wrap (l[i] + 1) := by simp [tk, he]
      rw [hm]
      refine W_round hc ?_
      unfold c19_l0
      repeat (first | refine W_assoc ?_ | (show W _ (.seq (.region _ _) _) _ _; refine W_reg (by simp; with_reducible rfl) ?_) | (show R _ _ _ (_ :: _) _ _ _ _; refine R_op (by simp (maxSteps := 2000000) [hlt, hw, he, hb, hb2]; with_reducible rfl) ?_) | (show R _ _ _ [] _ _ _ _; refine R_nil (by simp; with_reducible rfl) ?_) | (show W _ (.seq (.cond _ _ _) _) _ _; first | refine W_ct (by first | (simp [hlt, hw, he, hb, hb2]; done) | fail) ?_ | refine W_cf (by first | (simp [hlt, hw, he, hb, hb2]; done) | fail) ?_) | refine W_skip ?_ | refine W_bl (c := .seq _ _) ?_ | refine W_bl (c := .region _ _) ?_ | refine W_bl (c := .cond _ _ _) ?_ | refine W_bl (c := .block _ _) ?_ | refine W_rt ?_ | refine W_ex ?_ | refine W_end ?_ | refine W_tail (a := .region _ _) ?_ | refine W_tail (a := .cond _ _ _) ?_ | refine W_tail (a := .ret) ?_ | refine W_tail (a := .exit _) ?_ | refine W_tail (a := .block _ _) ?_ | refine QB_normal ?_ | refine QB_exit ?_ | refine QB_ret ?_ | refine QB_out (by decide) ?_ | refine QL_next ?_ | refine QL_exit ?_ | refine QL_ret ?_ | refine QL_out (by decide) ?_ | (show Fin _ _ .ret _; exact Fin_ret (by first | (simp; done) | (simp; with_reducible rfl))) | (show Fin _ _ .normal _; exact Fin_end (by first | (simp; done) | (simp; with_reducible rfl))))
      exact ih (i + 1) _ _ (by omega) (by simp [hr]) (by simp; try rfl)
    · have hm : tk le l[i] = l[i] := by simp [tk, he]
      rw [hm]
      refine W_round hc ?_
      unfold c19_l0
      repeat (first | refine W_assoc ?_ | (show W _ (.seq (.region _ _) _) _ _; refine W_reg (by simp; with_reducible rfl) ?_) | (show R _ _ _ (_ :: _) _ _ _ _; refine R_op (by simp (maxSteps := 2000000) [hlt, hw, he, hb, hb2]; with_reducible rfl) ?_) | (show R _ _ _ [] _ _ _ _; refine R_nil (by simp; with_reducible rfl) ?_) | (show W _ (.seq (.cond _ _ _) _) _ _; first | refine W_ct (by first | (simp [hlt, hw, he, hb, hb2]; done) | fail) ?_ | refine W_cf (by first | (simp [hlt, hw, he, hb, hb2]; done) | fail) ?_) | refine W_skip ?_ | refine W_bl (c := .seq _ _) ?_ | refine W_bl (c := .region _ _) ?_ | refine W_bl (c := .cond _ _ _) ?_ | refine W_bl (c := .block _ _) ?_ | refine W_rt ?_ | refine W_ex ?_ | refine W_end ?_ | refine W_tail (a := .region _ _) ?_ | refine W_tail (a := .cond _ _ _) ?_ | refine W_tail (a := .ret) ?_ | refine W_tail (a := .exit _) ?_ | refine W_tail (a := .block _ _) ?_ | refine QB_normal ?_ | refine QB_exit ?_ | refine QB_ret ?_ | refine QB_out (by decide) ?_ | refine QL_next ?_ | refine QL_exit ?_ | refine QL_ret ?_ | refine QL_out (by decide) ?_ | (show Fin _ _ .ret _; exact Fin_ret (by first | (simp; done) | (simp; with_reducible rfl))) | (show Fin _ _ .normal _; exact Fin_end (by first | (simp; done) | (simp; with_reducible rfl))))
      exact ih (i + 1) _ _ (by omega) (by simp [hr]) (by simp; try rfl)

theorem V_rtick (l : List Int) (hl : l.length ≤ 1000000) (s le : Int) : FV (F T) 19 [.agg [.int .i64 s, .int .i64 le, .ro 1 (enc (eInt .i64) l) false]] =
    some (.agg [.int .i64 s, .int .i64 le, .ro 1 (enc (eInt .i64) (l.map (tk le))) false]) := by
  refine FV_W T19 (r := (.agg [.int .i64 s, .int .i64 le, .own 0 0 (l.map (tk le)).length], [⟨3, 1, false, enc (eInt .i64) (l.map (tk le)), 0⟩])) ?_ (by simp)
  simp only [c19, c19_b, Lift.start]
  repeat (first | refine W_assoc ?_ | (show W _ (.seq (.region _ _) _) _ _; refine W_reg (by simp; with_reducible rfl) ?_) | (show R _ _ _ (_ :: _) _ _ _ _; refine R_op (by simp (maxSteps := 2000000); with_reducible rfl) ?_) | (show R _ _ _ [] _ _ _ _; refine R_nil (by simp; with_reducible rfl) ?_) | (show W _ (.seq (.cond _ _ _) _) _ _; first | refine W_ct (by first | (simp; done) | fail) ?_ | refine W_cf (by first | (simp; done) | fail) ?_) | refine W_skip ?_ | refine W_bl (c := .seq _ _) ?_ | refine W_bl (c := .region _ _) ?_ | refine W_bl (c := .cond _ _ _) ?_ | refine W_bl (c := .block _ _) ?_ | refine W_rt ?_ | refine W_ex ?_ | refine W_end ?_ | refine W_tail (a := .region _ _) ?_ | refine W_tail (a := .cond _ _ _) ?_ | refine W_tail (a := .ret) ?_ | refine W_tail (a := .exit _) ?_ | refine W_tail (a := .block _ _) ?_ | refine QB_normal ?_ | refine QB_exit ?_ | refine QB_ret ?_ | refine QB_out (by decide) ?_ | refine QL_next ?_ | refine QL_exit ?_ | refine QL_ret ?_ | refine QL_out (by decide) ?_ | (show Fin _ _ .ret _; exact Fin_ret (by first | (simp; done) | (simp; with_reducible rfl))) | (show Fin _ _ .normal _; exact Fin_end (by first | (simp; done) | (simp; with_reducible rfl))))
  have hz := rtick_loop s le l hl l.length 0 []
  simp only [List.drop_zero, List.nil_append] at hz
  exact hz _ (by simp) (by simp) (by simp; try rfl)

theorem hr_at (l : List Int) (x : Int) (i : Nat) (h : i < l.length) : (hr l x)[i]? = some (if (i : Int) = x then 0 else l[i]) := by
  unfold hr
  split
  · rw [List.getElem?_set]
    by_cases h1 : (i : Int) = x
    · rw [if_pos (by omega), if_pos (by omega), if_pos h1]
    · rw [if_neg (by omega), if_neg h1, List.getElem?_eq_getElem h]
  · rw [if_neg (by omega), List.getElem?_eq_getElem h]

theorem rhear_loop (s le x : Int) (l : List Int) (hl : l.length ≤ 1000000) :
    ∀ (k i : Nat) (r : List Int) (st : ASt), i + k = l.length → r = (hr l x).take i → canon [1, 2, 4, 5, 6] st = ⟨[.top, .int .i64 x, .ref 0 0 0, .top, .ref 1 0 0, .own 2 0 r.length, .int .i64 i, .top, .top, .top, .top, .top, .top, .top, .top, .top, .top, .top, .top, .top, .top, .top, .top, .top, .top, .top, .top, .top, .top, .top], [(0, ⟨24, 3, true, [[.int .i64 s, .int .i64 le, .ro 1 (enc (eInt .i64) l) false]], 0⟩), (1, ⟨24, 3, true, [[.int .i64 0, .int .i64 0, .ro 1 [] true]], 0⟩), (2, ⟨3, 1, false, enc (eInt .i64) r, 0⟩)], 3, 0⟩ →
      W T c20_k0 st (Lift.Fin c20 (.agg [.int .i64 s, .int .i64 le, .own 0 0 (hr l x).length], [⟨3, 1, false, enc (eInt .i64) (hr l x), 0⟩])) := by
  intro k
  induction k with
  | zero =>
    intro i r st hi hr1 hc
    have h1 : ¬ i < l.length := by omega
    have e1 : r = hr l x := by rw [hr1, List.take_of_length_le (by rw [hr_len]; omega)]
    rw [← e1]
    unfold c20_k0
    refine W_round hc ?_
    unfold c20_l0
    repeat (first | refine W_assoc ?_ | (show W _ (.seq (.region _ _) _) _ _; refine W_reg (by simp; with_reducible rfl) ?_) | (show R _ _ _ (_ :: _) _ _ _ _; refine R_op (by simp (maxSteps := 2000000) [h1]; with_reducible rfl) ?_) | (show R _ _ _ [] _ _ _ _; refine R_nil (by simp; with_reducible rfl) ?_) | (show W _ (.seq (.cond _ _ _) _) _ _; first | refine W_ct (by first | (simp [h1]; done) | fail) ?_ | refine W_cf (by first | (simp [h1]; done) | fail) ?_) | refine W_skip ?_ | refine W_bl (c := .seq _ _) ?_ | refine W_bl (c := .region _ _) ?_ | refine W_bl (c := .cond _ _ _) ?_ | refine W_bl (c := .block _ _) ?_ | refine W_rt ?_ | refine W_ex ?_ | refine W_end ?_ | refine W_tail (a := .region _ _) ?_ | refine W_tail (a := .cond _ _ _) ?_ | refine W_tail (a := .ret) ?_ | refine W_tail (a := .exit _) ?_ | refine W_tail (a := .block _ _) ?_ | refine QB_normal ?_ | refine QB_exit ?_ | refine QB_ret ?_ | refine QB_out (by decide) ?_ | refine QL_next ?_ | refine QL_exit ?_ | refine QL_ret ?_ | refine QL_out (by decide) ?_ | (show Fin _ _ .ret _; exact Fin_ret (by first | (simp [c20]; done) | (simp [c20]; with_reducible rfl))) | (show Fin _ _ .normal _; exact Fin_end (by first | (simp [c20]; done) | (simp [c20]; with_reducible rfl))))
  | succ k ih =>
    intro i r st hi hr1 hc
    have hlt : i < l.length := by omega
    have hrl : r.length = i := by rw [hr1, List.length_take, hr_len]; omega
    have hw := wrapS i _ hlt (by omega)
    have hb : (r.length + 1) * 8 ≤ 140737488355328 := by omega
    have hb2 : r.length + 1 ≤ 140737488355328 := by omega
    have hnx : (hr l x).take (i + 1) = r ++ [if (i : Int) = x then 0 else l[i]] := by
      rw [List.take_succ, hr_at l x i hlt, hr1]; rfl
    unfold c20_k0
    by_cases he : (i : Int) = x
    · rw [if_pos he] at hnx
      subst he
      refine W_round hc ?_
      unfold c20_l0
      repeat (first | refine W_assoc ?_ | (show W _ (.seq (.region _ _) _) _ _; refine W_reg (by simp; with_reducible rfl) ?_) | (show R _ _ _ (_ :: _) _ _ _ _; refine R_op (by simp (maxSteps := 2000000) [hlt, hw, hb, hb2]; with_reducible rfl) ?_) | (show R _ _ _ [] _ _ _ _; refine R_nil (by simp; with_reducible rfl) ?_) | (show W _ (.seq (.cond _ _ _) _) _ _; first | refine W_ct (by first | (simp [hlt, hw, hb, hb2]; done) | fail) ?_ | refine W_cf (by first | (simp [hlt, hw, hb, hb2]; done) | fail) ?_) | refine W_skip ?_ | refine W_bl (c := .seq _ _) ?_ | refine W_bl (c := .region _ _) ?_ | refine W_bl (c := .cond _ _ _) ?_ | refine W_bl (c := .block _ _) ?_ | refine W_rt ?_ | refine W_ex ?_ | refine W_end ?_ | refine W_tail (a := .region _ _) ?_ | refine W_tail (a := .cond _ _ _) ?_ | refine W_tail (a := .ret) ?_ | refine W_tail (a := .exit _) ?_ | refine W_tail (a := .block _ _) ?_ | refine QB_normal ?_ | refine QB_exit ?_ | refine QB_ret ?_ | refine QB_out (by decide) ?_ | refine QL_next ?_ | refine QL_exit ?_ | refine QL_ret ?_ | refine QL_out (by decide) ?_ | (show Fin _ _ .ret _; exact Fin_ret (by first | (simp; done) | (simp; with_reducible rfl))) | (show Fin _ _ .normal _; exact Fin_end (by first | (simp; done) | (simp; with_reducible rfl))))
      exact ih (i + 1) (r ++ [0]) _ (by omega) hnx.symm (by simp; try rfl)
    · rw [if_neg he] at hnx
      refine W_round hc ?_
      unfold c20_l0
      repeat (first | refine W_assoc ?_ | (show W _ (.seq (.region _ _) _) _ _; refine W_reg (by simp; with_reducible rfl) ?_) | (show R _ _ _ (_ :: _) _ _ _ _; refine R_op (by simp (maxSteps := 2000000) [hlt, hw, he, hb, hb2]; with_reducible rfl) ?_) | (show R _ _ _ [] _ _ _ _; refine R_nil (by simp; with_reducible rfl) ?_) | (show W _ (.seq (.cond _ _ _) _) _ _; first | refine W_ct (by first | (simp [hlt, hw, he, hb, hb2]; done) | fail) ?_ | refine W_cf (by first | (simp [hlt, hw, he, hb, hb2]; done) | fail) ?_) | refine W_skip ?_ | refine W_bl (c := .seq _ _) ?_ | refine W_bl (c := .region _ _) ?_ | refine W_bl (c := .cond _ _ _) ?_ | refine W_bl (c := .block _ _) ?_ | refine W_rt ?_ | refine W_ex ?_ | refine W_end ?_ | refine W_tail (a := .region _ _) ?_ | refine W_tail (a := .cond _ _ _) ?_ | refine W_tail (a := .ret) ?_ | refine W_tail (a := .exit _) ?_ | refine W_tail (a := .block _ _) ?_ | refine QB_normal ?_ | refine QB_exit ?_ | refine QB_ret ?_ | refine QB_out (by decide) ?_ | refine QL_next ?_ | refine QL_exit ?_ | refine QL_ret ?_ | refine QL_out (by decide) ?_ | (show Fin _ _ .ret _; exact Fin_ret (by first | (simp; done) | (simp; with_reducible rfl))) | (show Fin _ _ .normal _; exact Fin_end (by first | (simp; done) | (simp; with_reducible rfl))))
      exact ih (i + 1) (r ++ [l[i]]) _ (by omega) hnx.symm (by simp; try rfl)

theorem V_rhear (l : List Int) (hl : l.length ≤ 1000000) (s le x : Int) : FV (F T) 20 [.agg [.int .i64 s, .int .i64 le, .ro 1 (enc (eInt .i64) l) false], .int .i64 x] =
    some (.agg [.int .i64 s, .int .i64 le, .ro 1 (enc (eInt .i64) (hr l x)) false]) := by
  refine FV_W T20 (r := (.agg [.int .i64 s, .int .i64 le, .own 0 0 (hr l x).length], [⟨3, 1, false, enc (eInt .i64) (hr l x), 0⟩])) ?_ (by simp)
  simp only [c20, c20_b, Lift.start]
  repeat (first | refine W_assoc ?_ | (show W _ (.seq (.region _ _) _) _ _; refine W_reg (by simp; with_reducible rfl) ?_) | (show R _ _ _ (_ :: _) _ _ _ _; refine R_op (by simp (maxSteps := 2000000); with_reducible rfl) ?_) | (show R _ _ _ [] _ _ _ _; refine R_nil (by simp; with_reducible rfl) ?_) | (show W _ (.seq (.cond _ _ _) _) _ _; first | refine W_ct (by first | (simp; done) | fail) ?_ | refine W_cf (by first | (simp; done) | fail) ?_) | refine W_skip ?_ | refine W_bl (c := .seq _ _) ?_ | refine W_bl (c := .region _ _) ?_ | refine W_bl (c := .cond _ _ _) ?_ | refine W_bl (c := .block _ _) ?_ | refine W_rt ?_ | refine W_ex ?_ | refine W_end ?_ | refine W_tail (a := .region _ _) ?_ | refine W_tail (a := .cond _ _ _) ?_ | refine W_tail (a := .ret) ?_ | refine W_tail (a := .exit _) ?_ | refine W_tail (a := .block _ _) ?_ | refine QB_normal ?_ | refine QB_exit ?_ | refine QB_ret ?_ | refine QB_out (by decide) ?_ | refine QL_next ?_ | refine QL_exit ?_ | refine QL_ret ?_ | refine QL_out (by decide) ?_ | (show Fin _ _ .ret _; exact Fin_ret (by first | (simp; done) | (simp; with_reducible rfl))) | (show Fin _ _ .normal _; exact Fin_end (by first | (simp; done) | (simp; with_reducible rfl))))
  have hz := rhear_loop s le x l hl l.length 0 []
  exact hz _ (by simp) (by simp) (by simp; try rfl)

/-- How many. -/
def cnt (n : Int) : Nat := (min (max n 0) 8).toNat

theorem rnew_loop (n s le : Int) :
    ∀ (k i : Nat) (r : List Int) (st : ASt), i + k = cnt n → r = List.replicate i 0 → canon [0, 1, 2, 6, 7, 8] st = ⟨[.int .i64 n, .int .i64 s, .int .i64 le, .top, .top, .top, .ref 0 0 0, .own 1 0 r.length, .int .i64 i, .top, .top, .top, .top, .top, .top, .top, .top, .top, .top, .top, .top, .top, .top, .top, .top], [(0, ⟨24, 3, true, [[.int .i64 0, .int .i64 0, .ro 1 [] true]], 0⟩), (1, ⟨3, 1, false, enc (eInt .i64) r, 0⟩)], 2, 0⟩ →
      W T c22_k0 st (Lift.Fin c22 (.agg [.int .i64 s, .int .i64 le, .own 0 0 (cnt n)], [⟨3, 1, false, enc (eInt .i64) (List.replicate (cnt n) 0), 0⟩])) := by
  intro k
  induction k with
  | zero =>
    intro i r st hi hr1 hc
    have hi2 : i = cnt n := by omega
    have h1 : ¬ ((i : Int) < n ∧ (i : Int) < 8) := by unfold cnt at hi2; omega
    have hrl : r.length = cnt n := by rw [hr1]; simp [hi2]
    rw [← hi2, ← hr1]
    have hrl2 : r.length = i := by omega
    rw [← hrl2]
    unfold c22_k0
    by_cases h2 : (i : Int) < n
    · have h3 : ¬ i < 8 := by omega
      have h4 : ¬ (i : Int) < 8 := by omega
      refine W_round hc ?_
      unfold c22_l0
      repeat (first | refine W_assoc ?_ | (show W _ (.seq (.region _ _) _) _ _; refine W_reg (by simp; with_reducible rfl) ?_) | (show R _ _ _ (_ :: _) _ _ _ _; refine R_op (by simp (maxSteps := 2000000) [h2, h3, h4]; with_reducible rfl) ?_) | (show R _ _ _ [] _ _ _ _; refine R_nil (by simp; with_reducible rfl) ?_) | (show W _ (.seq (.cond _ _ _) _) _ _; first | refine W_ct (by first | (simp [h2, h3, h4]; done) | fail) ?_ | refine W_cf (by first | (simp [h2, h3, h4]; done) | fail) ?_) | refine W_skip ?_ | refine W_bl (c := .seq _ _) ?_ | refine W_bl (c := .region _ _) ?_ | refine W_bl (c := .cond _ _ _) ?_ | refine W_bl (c := .block _ _) ?_ | refine W_rt ?_ | refine W_ex ?_ | refine W_end ?_ | refine W_tail (a := .region _ _) ?_ | refine W_tail (a := .cond _ _ _) ?_ | refine W_tail (a := .ret) ?_ | refine W_tail (a := .exit _) ?_ | refine W_tail (a := .block _ _) ?_ | refine QB_normal ?_ | refine QB_exit ?_ | refine QB_ret ?_ | refine QB_out (by decide) ?_ | refine QL_next ?_ | refine QL_exit ?_ | refine QL_ret ?_ | refine QL_out (by decide) ?_ | (show Fin _ _ .ret _; exact Fin_ret (by first | (simp [c22]; done) | (simp [c22]; with_reducible rfl))) | (show Fin _ _ .normal _; exact Fin_end (by first | (simp [c22]; done) | (simp [c22]; with_reducible rfl))))
    · refine W_round hc ?_
      unfold c22_l0
      repeat (first | refine W_assoc ?_ | (show W _ (.seq (.region _ _) _) _ _; refine W_reg (by simp; with_reducible rfl) ?_) | (show R _ _ _ (_ :: _) _ _ _ _; refine R_op (by simp (maxSteps := 2000000) [h2]; with_reducible rfl) ?_) | (show R _ _ _ [] _ _ _ _; refine R_nil (by simp; with_reducible rfl) ?_) | (show W _ (.seq (.cond _ _ _) _) _ _; first | refine W_ct (by first | (simp [h2]; done) | fail) ?_ | refine W_cf (by first | (simp [h2]; done) | fail) ?_) | refine W_skip ?_ | refine W_bl (c := .seq _ _) ?_ | refine W_bl (c := .region _ _) ?_ | refine W_bl (c := .cond _ _ _) ?_ | refine W_bl (c := .block _ _) ?_ | refine W_rt ?_ | refine W_ex ?_ | refine W_end ?_ | refine W_tail (a := .region _ _) ?_ | refine W_tail (a := .cond _ _ _) ?_ | refine W_tail (a := .ret) ?_ | refine W_tail (a := .exit _) ?_ | refine W_tail (a := .block _ _) ?_ | refine QB_normal ?_ | refine QB_exit ?_ | refine QB_ret ?_ | refine QB_out (by decide) ?_ | refine QL_next ?_ | refine QL_exit ?_ | refine QL_ret ?_ | refine QL_out (by decide) ?_ | (show Fin _ _ .ret _; exact Fin_ret (by first | (simp [c22]; done) | (simp [c22]; with_reducible rfl))) | (show Fin _ _ .normal _; exact Fin_end (by first | (simp [c22]; done) | (simp [c22]; with_reducible rfl))))
  | succ k ih =>
    intro i r st hi hr1 hc
    have h2 : (i : Int) < n := by unfold cnt at hi; omega
    have h3 : i < 8 := by unfold cnt at hi; omega
    have h4 : (i : Int) < 8 := by omega
    have hrl : r.length = i := by rw [hr1]; simp
    have hw := wrapS i _ h3 (by omega)
    have hb : (r.length + 1) * 8 ≤ 140737488355328 := by omega
    have hb2 : r.length + 1 ≤ 140737488355328 := by omega
    unfold c22_k0
    refine W_round hc ?_
    unfold c22_l0
    repeat (first | refine W_assoc ?_ | (show W _ (.seq (.region _ _) _) _ _; refine W_reg (by simp; with_reducible rfl) ?_) | (show R _ _ _ (_ :: _) _ _ _ _; refine R_op (by simp (maxSteps := 2000000) [h2, h3, h4, hw, hb, hb2]; with_reducible rfl) ?_) | (show R _ _ _ [] _ _ _ _; refine R_nil (by simp; with_reducible rfl) ?_) | (show W _ (.seq (.cond _ _ _) _) _ _; first | refine W_ct (by first | (simp [h2, h3, h4, hw, hb, hb2]; done) | fail) ?_ | refine W_cf (by first | (simp [h2, h3, h4, hw, hb, hb2]; done) | fail) ?_) | refine W_skip ?_ | refine W_bl (c := .seq _ _) ?_ | refine W_bl (c := .region _ _) ?_ | refine W_bl (c := .cond _ _ _) ?_ | refine W_bl (c := .block _ _) ?_ | refine W_rt ?_ | refine W_ex ?_ | refine W_end ?_ | refine W_tail (a := .region _ _) ?_ | refine W_tail (a := .cond _ _ _) ?_ | refine W_tail (a := .ret) ?_ | refine W_tail (a := .exit _) ?_ | refine W_tail (a := .block _ _) ?_ | refine QB_normal ?_ | refine QB_exit ?_ | refine QB_ret ?_ | refine QB_out (by decide) ?_ | refine QL_next ?_ | refine QL_exit ?_ | refine QL_ret ?_ | refine QL_out (by decide) ?_ | (show Fin _ _ .ret _; exact Fin_ret (by first | (simp; done) | (simp; with_reducible rfl))) | (show Fin _ _ .normal _; exact Fin_end (by first | (simp; done) | (simp; with_reducible rfl))))
    exact ih (i + 1) (r ++ [0]) _ (by omega) (by rw [hr1, List.replicate_succ']) (by simp; try rfl)

theorem V_rnew (n s le : Int) : FV (F T) 22 [.int .i64 n, .int .i64 s, .int .i64 le] = some (.agg [.int .i64 s, .int .i64 le, .ro 1 (enc (eInt .i64) (List.replicate (cnt n) 0)) false]) := by
  refine FV_W T22 (r := (.agg [.int .i64 s, .int .i64 le, .own 0 0 (cnt n)], [⟨3, 1, false, enc (eInt .i64) (List.replicate (cnt n) 0), 0⟩])) ?_ (by simp)
  simp only [c22, c22_b, Lift.start]
  repeat (first | refine W_assoc ?_ | (show W _ (.seq (.region _ _) _) _ _; refine W_reg (by simp; with_reducible rfl) ?_) | (show R _ _ _ (_ :: _) _ _ _ _; refine R_op (by simp (maxSteps := 2000000); with_reducible rfl) ?_) | (show R _ _ _ [] _ _ _ _; refine R_nil (by simp; with_reducible rfl) ?_) | (show W _ (.seq (.cond _ _ _) _) _ _; first | refine W_ct (by first | (simp; done) | fail) ?_ | refine W_cf (by first | (simp; done) | fail) ?_) | refine W_skip ?_ | refine W_bl (c := .seq _ _) ?_ | refine W_bl (c := .region _ _) ?_ | refine W_bl (c := .cond _ _ _) ?_ | refine W_bl (c := .block _ _) ?_ | refine W_rt ?_ | refine W_ex ?_ | refine W_end ?_ | refine W_tail (a := .region _ _) ?_ | refine W_tail (a := .cond _ _ _) ?_ | refine W_tail (a := .ret) ?_ | refine W_tail (a := .exit _) ?_ | refine W_tail (a := .block _ _) ?_ | refine QB_normal ?_ | refine QB_exit ?_ | refine QB_ret ?_ | refine QB_out (by decide) ?_ | refine QL_next ?_ | refine QL_exit ?_ | refine QL_ret ?_ | refine QL_out (by decide) ?_ | (show Fin _ _ .ret _; exact Fin_ret (by first | (simp; done) | (simp; with_reducible rfl))) | (show Fin _ _ .normal _; exact Fin_end (by first | (simp; done) | (simp; with_reducible rfl))))
  exact rnew_loop n s le (cnt n) 0 [] _ (by simp) rfl (by simp; try rfl)

theorem V_new (n s le : Int) : FV (F T) 21 [.int .i64 n, .int .i64 s, .int .i64 le] = some (.agg [.int .i64 s, .int .i64 le, .ro 1 (enc (eInt .i64) (List.replicate (cnt n) 0)) false]) := by
  have hmx : (if 8 < if n < 0 then 0 else n then 8 else if n < 0 then 0 else n) = ((cnt n : Nat) : Int) := by
    unfold cnt
    split <;> split <;> omega
  have hc : cnt n ≤ 8 := by unfold cnt; omega
  have h2 : cnt n ≤ 140737488355328 := by omega
  have h3 : cnt n * 8 ≤ 140737488355328 := by omega
  refine FV_W T21 (r := (.agg [.int .i64 s, .int .i64 le, .own 0 0 (cnt n)], [⟨3, 1, false, enc (eInt .i64) (List.replicate (cnt n) 0), 0⟩])) ?_ (by simp)
  simp only [c21, c21_b, Lift.start]
  repeat (first | refine W_assoc ?_ | (show W _ (.seq (.region _ _) _) _ _; refine W_reg (by simp; with_reducible rfl) ?_) | (show R _ _ _ (_ :: _) _ _ _ _; refine R_op (by simp (maxSteps := 2000000) [hmx, h2, h3]; with_reducible rfl) ?_) | (show R _ _ _ [] _ _ _ _; refine R_nil (by simp; with_reducible rfl) ?_) | (show W _ (.seq (.cond _ _ _) _) _ _; first | refine W_ct (by first | (simp [hmx, h2, h3]; done) | fail) ?_ | refine W_cf (by first | (simp [hmx, h2, h3]; done) | fail) ?_) | refine W_skip ?_ | refine W_bl (c := .seq _ _) ?_ | refine W_bl (c := .region _ _) ?_ | refine W_bl (c := .cond _ _ _) ?_ | refine W_bl (c := .block _ _) ?_ | refine W_rt ?_ | refine W_ex ?_ | refine W_end ?_ | refine W_tail (a := .region _ _) ?_ | refine W_tail (a := .cond _ _ _) ?_ | refine W_tail (a := .ret) ?_ | refine W_tail (a := .exit _) ?_ | refine W_tail (a := .block _ _) ?_ | refine QB_normal ?_ | refine QB_exit ?_ | refine QB_ret ?_ | refine QB_out (by decide) ?_ | refine QL_next ?_ | refine QL_exit ?_ | refine QL_ret ?_ | refine QL_out (by decide) ?_ | (show Fin _ _ .ret _; exact Fin_ret (by first | (simp [c21]; done) | (simp [c21]; with_reducible rfl))) | (show Fin _ _ .normal _; exact Fin_end (by first | (simp [c21]; done) | (simp [c21]; with_reducible rfl))))

theorem V_is (l m : List Int) (hl : l.length ≤ 1000000) (hm : m.length ≤ 1000000) (s le : Int) : F T 18 [.agg [.int .i64 s, .int .i64 le, .ro 1 (enc (eInt .i64) l) false], .agg [.int .i64 s, .int .i64 le, .ro 1 (enc (eInt .i64) m) false]] [] = some (.bool (decide (l = m)), []) := by
  have h := FV_of (F_R06_Same l m hl hm)
  simp at h
  refine F_W T18 ?_
  simp only [c18, c18_b, Lift.start]
  repeat (first | refine W_assoc ?_ | (show W _ (.seq (.region _ _) _) _ _; refine W_reg (by simp; with_reducible rfl) ?_) | (show R _ _ _ (_ :: _) _ _ _ _; refine R_op (by simp (maxSteps := 2000000) [h]; with_reducible rfl) ?_) | (show R _ _ _ [] _ _ _ _; refine R_nil (by simp; with_reducible rfl) ?_) | (show W _ (.seq (.cond _ _ _) _) _ _; first | refine W_ct (by first | (simp [h]; done) | fail) ?_ | refine W_cf (by first | (simp [h]; done) | fail) ?_) | refine W_skip ?_ | refine W_bl (c := .seq _ _) ?_ | refine W_bl (c := .region _ _) ?_ | refine W_bl (c := .cond _ _ _) ?_ | refine W_bl (c := .block _ _) ?_ | refine W_rt ?_ | refine W_ex ?_ | refine W_end ?_ | refine W_tail (a := .region _ _) ?_ | refine W_tail (a := .cond _ _ _) ?_ | refine W_tail (a := .ret) ?_ | refine W_tail (a := .exit _) ?_ | refine W_tail (a := .block _ _) ?_ | refine QB_normal ?_ | refine QB_exit ?_ | refine QB_ret ?_ | refine QB_out (by decide) ?_ | refine QL_next ?_ | refine QL_exit ?_ | refine QL_ret ?_ | refine QL_out (by decide) ?_ | (show Fin _ _ .ret _; exact Fin_ret (by first | (simp [c18]; done) | (simp [c18]; with_reducible rfl))) | (show Fin _ _ .normal _; exact Fin_end (by first | (simp [c18]; done) | (simp [c18]; with_reducible rfl))))

theorem F_same (l m : List Int) (hl : l.length ≤ 1000000) (hm : m.length ≤ 1000000) (s le : Int) : F T 25 [.agg [.int .i64 s, .int .i64 le, .ro 1 (enc (eInt .i64) l) false], .agg [.int .i64 s, .int .i64 le, .ro 1 (enc (eInt .i64) m) false]] [] = some (.bool (decide (l = m)), []) := by
  have h := FV_of (F_EQU l m hl hm)
  simp at h
  refine F_W T25 ?_
  simp only [c25, c25_b, Lift.start]
  repeat (first | refine W_assoc ?_ | (show W _ (.seq (.region _ _) _) _ _; refine W_reg (by simp; with_reducible rfl) ?_) | (show R _ _ _ (_ :: _) _ _ _ _; refine R_op (by simp (maxSteps := 2000000) [h]; with_reducible rfl) ?_) | (show R _ _ _ [] _ _ _ _; refine R_nil (by simp; with_reducible rfl) ?_) | (show W _ (.seq (.cond _ _ _) _) _ _; first | refine W_ct (by first | (simp [h]; done) | fail) ?_ | refine W_cf (by first | (simp [h]; done) | fail) ?_) | refine W_skip ?_ | refine W_bl (c := .seq _ _) ?_ | refine W_bl (c := .region _ _) ?_ | refine W_bl (c := .cond _ _ _) ?_ | refine W_bl (c := .block _ _) ?_ | refine W_rt ?_ | refine W_ex ?_ | refine W_end ?_ | refine W_tail (a := .region _ _) ?_ | refine W_tail (a := .cond _ _ _) ?_ | refine W_tail (a := .ret) ?_ | refine W_tail (a := .exit _) ?_ | refine W_tail (a := .block _ _) ?_ | refine QB_normal ?_ | refine QB_exit ?_ | refine QB_ret ?_ | refine QB_out (by decide) ?_ | refine QL_next ?_ | refine QL_exit ?_ | refine QL_ret ?_ | refine QL_out (by decide) ?_ | (show Fin _ _ .ret _; exact Fin_ret (by first | (simp [c25]; done) | (simp [c25]; with_reducible rfl))) | (show Fin _ _ .normal _; exact Fin_end (by first | (simp [c25]; done) | (simp [c25]; with_reducible rfl))))

/-- Silent. -/
def sil (l : List Int) (s le x : Int) : Bool := decide (0 ≤ x ∧ x < l.length) && (!decide (x = s) && decide (le ≤ l.getD x.toNat 0))

theorem F_silent (l : List Int) (hl : l.length ≤ 1000000) (s le x : Int) : F T 23 [.agg [.int .i64 s, .int .i64 le, .ro 1 (enc (eInt .i64) l) false], .int .i64 x] [] = some (.bool (sil l s le x), []) := by
  have h3 := FV_of (F_there l hl s le x)
  by_cases hx : 0 ≤ x ∧ x < l.length
  · have hx1 : x.toNat < l.length := by omega
    have hg : l.getD x.toNat 0 = l[x.toNat] := by simp [hx1]
    unfold sil
    rw [hg]
    simp only [hx, and_self, decide_true, Bool.true_and] at h3 ⊢
    simp at h3
    obtain ⟨hx0, hx2⟩ := hx
    by_cases hs : x = s
    · simp only [hs, decide_true, Bool.not_true, Bool.false_and]
      subst hs
      refine F_W T23 ?_
      simp only [c23, c23_b, Lift.start]
      repeat (first | refine W_assoc ?_ | (show W _ (.seq (.region _ _) _) _ _; refine W_reg (by simp; with_reducible rfl) ?_) | (show R _ _ _ (_ :: _) _ _ _ _; refine R_op (by simp (maxSteps := 2000000) [h3]; with_reducible rfl) ?_) | (show R _ _ _ [] _ _ _ _; refine R_nil (by simp; with_reducible rfl) ?_) | (show W _ (.seq (.cond _ _ _) _) _ _; first | refine W_ct (by first | (simp [h3]; done) | fail) ?_ | refine W_cf (by first | (simp [h3]; done) | fail) ?_) | refine W_skip ?_ | refine W_bl (c := .seq _ _) ?_ | refine W_bl (c := .region _ _) ?_ | refine W_bl (c := .cond _ _ _) ?_ | refine W_bl (c := .block _ _) ?_ | refine W_rt ?_ | refine W_ex ?_ | refine W_end ?_ | refine W_tail (a := .region _ _) ?_ | refine W_tail (a := .cond _ _ _) ?_ | refine W_tail (a := .ret) ?_ | refine W_tail (a := .exit _) ?_ | refine W_tail (a := .block _ _) ?_ | refine QB_normal ?_ | refine QB_exit ?_ | refine QB_ret ?_ | refine QB_out (by decide) ?_ | refine QL_next ?_ | refine QL_exit ?_ | refine QL_ret ?_ | refine QL_out (by decide) ?_ | (show Fin _ _ .ret _; exact Fin_ret (by first | (simp [c23]; done) | (simp [c23]; with_reducible rfl))) | (show Fin _ _ .normal _; exact Fin_end (by first | (simp [c23]; done) | (simp [c23]; with_reducible rfl))))
    · simp only [hs, decide_false, Bool.not_false, Bool.true_and]
      refine F_W T23 ?_
      simp only [c23, c23_b, Lift.start]
      repeat (first | refine W_assoc ?_ | (show W _ (.seq (.region _ _) _) _ _; refine W_reg (by simp; with_reducible rfl) ?_) | (show R _ _ _ (_ :: _) _ _ _ _; refine R_op (by simp (maxSteps := 2000000) [h3, hs, hx0, hx1, hx2]; with_reducible rfl) ?_) | (show R _ _ _ [] _ _ _ _; refine R_nil (by simp; with_reducible rfl) ?_) | (show W _ (.seq (.cond _ _ _) _) _ _; first | refine W_ct (by first | (simp [h3, hs, hx0, hx1, hx2]; done) | fail) ?_ | refine W_cf (by first | (simp [h3, hs, hx0, hx1, hx2]; done) | fail) ?_) | refine W_skip ?_ | refine W_bl (c := .seq _ _) ?_ | refine W_bl (c := .region _ _) ?_ | refine W_bl (c := .cond _ _ _) ?_ | refine W_bl (c := .block _ _) ?_ | refine W_rt ?_ | refine W_ex ?_ | refine W_end ?_ | refine W_tail (a := .region _ _) ?_ | refine W_tail (a := .cond _ _ _) ?_ | refine W_tail (a := .ret) ?_ | refine W_tail (a := .exit _) ?_ | refine W_tail (a := .block _ _) ?_ | refine QB_normal ?_ | refine QB_exit ?_ | refine QB_ret ?_ | refine QB_out (by decide) ?_ | refine QL_next ?_ | refine QL_exit ?_ | refine QL_ret ?_ | refine QL_out (by decide) ?_ | (show Fin _ _ .ret _; exact Fin_ret (by first | (simp [c23]; done) | (simp [c23]; with_reducible rfl))) | (show Fin _ _ .normal _; exact Fin_end (by first | (simp [c23]; done) | (simp [c23]; with_reducible rfl))))
  · unfold sil
    simp only [hx, decide_false, Bool.false_and] at h3 ⊢
    simp at h3
    refine F_W T23 ?_
    simp only [c23, c23_b, Lift.start]
    repeat (first | refine W_assoc ?_ | (show W _ (.seq (.region _ _) _) _ _; refine W_reg (by simp; with_reducible rfl) ?_) | (show R _ _ _ (_ :: _) _ _ _ _; refine R_op (by simp (maxSteps := 2000000) [h3]; with_reducible rfl) ?_) | (show R _ _ _ [] _ _ _ _; refine R_nil (by simp; with_reducible rfl) ?_) | (show W _ (.seq (.cond _ _ _) _) _ _; first | refine W_ct (by first | (simp [h3]; done) | fail) ?_ | refine W_cf (by first | (simp [h3]; done) | fail) ?_) | refine W_skip ?_ | refine W_bl (c := .seq _ _) ?_ | refine W_bl (c := .region _ _) ?_ | refine W_bl (c := .cond _ _ _) ?_ | refine W_bl (c := .block _ _) ?_ | refine W_rt ?_ | refine W_ex ?_ | refine W_end ?_ | refine W_tail (a := .region _ _) ?_ | refine W_tail (a := .cond _ _ _) ?_ | refine W_tail (a := .ret) ?_ | refine W_tail (a := .exit _) ?_ | refine W_tail (a := .block _ _) ?_ | refine QB_normal ?_ | refine QB_exit ?_ | refine QB_ret ?_ | refine QB_out (by decide) ?_ | refine QL_next ?_ | refine QL_exit ?_ | refine QL_ret ?_ | refine QL_out (by decide) ?_ | (show Fin _ _ .ret _; exact Fin_ret (by first | (simp [c23]; done) | (simp [c23]; with_reducible rfl))) | (show Fin _ _ .normal _; exact Fin_end (by first | (simp [c23]; done) | (simp [c23]; with_reducible rfl))))

theorem V_rsilent (l : List Int) (hl : l.length ≤ 1000000) (s le x : Int) : F T 24 [.agg [.int .i64 s, .int .i64 le, .ro 1 (enc (eInt .i64) l) false], .int .i64 x] [] = some (.bool (sil l s le x), []) := by
  by_cases hs : x = s
  · have hr : sil l s le x = false := by simp [sil, hs]
    rw [hr]
    refine F_W T24 ?_
    simp only [c24, c24_b, Lift.start]
    repeat (first | refine W_assoc ?_ | (show W _ (.seq (.region _ _) _) _ _; refine W_reg (by simp; with_reducible rfl) ?_) | (show R _ _ _ (_ :: _) _ _ _ _; refine R_op (by simp (maxSteps := 2000000) [hs]; with_reducible rfl) ?_) | (show R _ _ _ [] _ _ _ _; refine R_nil (by simp; with_reducible rfl) ?_) | (show W _ (.seq (.cond _ _ _) _) _ _; first | refine W_ct (by first | (simp [hs]; done) | fail) ?_ | refine W_cf (by first | (simp [hs]; done) | fail) ?_) | refine W_skip ?_ | refine W_bl (c := .seq _ _) ?_ | refine W_bl (c := .region _ _) ?_ | refine W_bl (c := .cond _ _ _) ?_ | refine W_bl (c := .block _ _) ?_ | refine W_rt ?_ | refine W_ex ?_ | refine W_end ?_ | refine W_tail (a := .region _ _) ?_ | refine W_tail (a := .cond _ _ _) ?_ | refine W_tail (a := .ret) ?_ | refine W_tail (a := .exit _) ?_ | refine W_tail (a := .block _ _) ?_ | refine QB_normal ?_ | refine QB_exit ?_ | refine QB_ret ?_ | refine QB_out (by decide) ?_ | refine QL_next ?_ | refine QL_exit ?_ | refine QL_ret ?_ | refine QL_out (by decide) ?_ | (show Fin _ _ .ret _; exact Fin_ret (by first | (simp [c24]; done) | (simp [c24]; with_reducible rfl))) | (show Fin _ _ .normal _; exact Fin_end (by first | (simp [c24]; done) | (simp [c24]; with_reducible rfl))))
  · by_cases hx0 : 0 ≤ x
    · by_cases hx2 : x < l.length
      · have hx1 : x.toNat < l.length := by omega
        have hr : sil l s le x = decide (le ≤ l[x.toNat]) := by simp [sil, hs, hx0, hx1, hx2]
        rw [hr]
        refine F_W T24 ?_
        simp only [c24, c24_b, Lift.start]
        repeat (first | refine W_assoc ?_ | (show W _ (.seq (.region _ _) _) _ _; refine W_reg (by simp; with_reducible rfl) ?_) | (show R _ _ _ (_ :: _) _ _ _ _; refine R_op (by simp (maxSteps := 2000000) [hs, hx0, hx1, hx2]; with_reducible rfl) ?_) | (show R _ _ _ [] _ _ _ _; refine R_nil (by simp; with_reducible rfl) ?_) | (show W _ (.seq (.cond _ _ _) _) _ _; first | refine W_ct (by first | (simp [hs, hx0, hx1, hx2]; done) | fail) ?_ | refine W_cf (by first | (simp [hs, hx0, hx1, hx2]; done) | fail) ?_) | refine W_skip ?_ | refine W_bl (c := .seq _ _) ?_ | refine W_bl (c := .region _ _) ?_ | refine W_bl (c := .cond _ _ _) ?_ | refine W_bl (c := .block _ _) ?_ | refine W_rt ?_ | refine W_ex ?_ | refine W_end ?_ | refine W_tail (a := .region _ _) ?_ | refine W_tail (a := .cond _ _ _) ?_ | refine W_tail (a := .ret) ?_ | refine W_tail (a := .exit _) ?_ | refine W_tail (a := .block _ _) ?_ | refine QB_normal ?_ | refine QB_exit ?_ | refine QB_ret ?_ | refine QB_out (by decide) ?_ | refine QL_next ?_ | refine QL_exit ?_ | refine QL_ret ?_ | refine QL_out (by decide) ?_ | (show Fin _ _ .ret _; exact Fin_ret (by first | (simp [c24]; done) | (simp [c24]; with_reducible rfl))) | (show Fin _ _ .normal _; exact Fin_end (by first | (simp [c24]; done) | (simp [c24]; with_reducible rfl))))
      · have hr : sil l s le x = false := by simp [sil, hs, hx0, hx2]
        rw [hr]
        refine F_W T24 ?_
        simp only [c24, c24_b, Lift.start]
        repeat (first | refine W_assoc ?_ | (show W _ (.seq (.region _ _) _) _ _; refine W_reg (by simp; with_reducible rfl) ?_) | (show R _ _ _ (_ :: _) _ _ _ _; refine R_op (by simp (maxSteps := 2000000) [hs, hx0, hx2]; with_reducible rfl) ?_) | (show R _ _ _ [] _ _ _ _; refine R_nil (by simp; with_reducible rfl) ?_) | (show W _ (.seq (.cond _ _ _) _) _ _; first | refine W_ct (by first | (simp [hs, hx0, hx2]; done) | fail) ?_ | refine W_cf (by first | (simp [hs, hx0, hx2]; done) | fail) ?_) | refine W_skip ?_ | refine W_bl (c := .seq _ _) ?_ | refine W_bl (c := .region _ _) ?_ | refine W_bl (c := .cond _ _ _) ?_ | refine W_bl (c := .block _ _) ?_ | refine W_rt ?_ | refine W_ex ?_ | refine W_end ?_ | refine W_tail (a := .region _ _) ?_ | refine W_tail (a := .cond _ _ _) ?_ | refine W_tail (a := .ret) ?_ | refine W_tail (a := .exit _) ?_ | refine W_tail (a := .block _ _) ?_ | refine QB_normal ?_ | refine QB_exit ?_ | refine QB_ret ?_ | refine QB_out (by decide) ?_ | refine QL_next ?_ | refine QL_exit ?_ | refine QL_ret ?_ | refine QL_out (by decide) ?_ | (show Fin _ _ .ret _; exact Fin_ret (by first | (simp [c24]; done) | (simp [c24]; with_reducible rfl))) | (show Fin _ _ .normal _; exact Fin_end (by first | (simp [c24]; done) | (simp [c24]; with_reducible rfl))))
    · have hr : sil l s le x = false := by simp [sil, hs, hx0]
      rw [hr]
      refine F_W T24 ?_
      simp only [c24, c24_b, Lift.start]
      repeat (first | refine W_assoc ?_ | (show W _ (.seq (.region _ _) _) _ _; refine W_reg (by simp; with_reducible rfl) ?_) | (show R _ _ _ (_ :: _) _ _ _ _; refine R_op (by simp (maxSteps := 2000000) [hs, hx0]; with_reducible rfl) ?_) | (show R _ _ _ [] _ _ _ _; refine R_nil (by simp; with_reducible rfl) ?_) | (show W _ (.seq (.cond _ _ _) _) _ _; first | refine W_ct (by first | (simp [hs, hx0]; done) | fail) ?_ | refine W_cf (by first | (simp [hs, hx0]; done) | fail) ?_) | refine W_skip ?_ | refine W_bl (c := .seq _ _) ?_ | refine W_bl (c := .region _ _) ?_ | refine W_bl (c := .cond _ _ _) ?_ | refine W_bl (c := .block _ _) ?_ | refine W_rt ?_ | refine W_ex ?_ | refine W_end ?_ | refine W_tail (a := .region _ _) ?_ | refine W_tail (a := .cond _ _ _) ?_ | refine W_tail (a := .ret) ?_ | refine W_tail (a := .exit _) ?_ | refine W_tail (a := .block _ _) ?_ | refine QB_normal ?_ | refine QB_exit ?_ | refine QB_ret ?_ | refine QB_out (by decide) ?_ | refine QL_next ?_ | refine QL_exit ?_ | refine QL_ret ?_ | refine QL_out (by decide) ?_ | (show Fin _ _ .ret _; exact Fin_ret (by first | (simp [c24]; done) | (simp [c24]; with_reducible rfl))) | (show Fin _ _ .normal _; exact Fin_end (by first | (simp [c24]; done) | (simp [c24]; with_reducible rfl))))

theorem V_works : FV (F T) 15 [] = some (.bool true) := by
  have hw : F T 15 [] [] = some (.bool true, []) := F_iff.2 ⟨200, by kernel_rfl⟩
  have h := FV_of hw
  simpa using h
end Go.Proofs.Ytnobgooojbppbaa.Beat
