/- What tasks need: joins of needs. -/
import Derived.Test.YtnobgooojbppbabNeed8
set_option linter.all false
set_option linter.unusedSimpArgs false
set_option maxRecDepth 100000
set_option maxHeartbeats 4000000
namespace Go.Proofs.Ytnobgooojbppbab.Need
open Go Go.RowKit Go.Proofs.Ytnobgooojbppbab.Lift Go.Proofs.Ytnobgooojbppbab.TND Go.Proofs.Ytnobgooojbppbab.Base Go.Proofs.Ytnobgooojbppbab.NeedPure Go.Proofs.Ytnobgooojbppbab.FlockIn Go.Proofs.Ytnobgooojbppbab.Flock

theorem join_loop (op : Int) (ps : List (List P2)) (hl : ps.length ≤ 5) (hp : ∀ (i : Nat) (h : i < ps.length), (ps[i]).length ≤ 50) :
    ∀ (k i : Nat) (r : List P2) (st : ASt), i + k = ps.length → r.length ≤ 50 * i → canon [0, 5, 8, 9, 10] st = ⟨[.int .i64 op, .top, .top, .top, .top, .own 0 0 r.length, .top, .top, .ro 1 (enc eP ps) false, .int .i64 ps.length, .int .i64 i, .top, .top, .top, .top, .top, .top, .top, .top, .top, .top, .top, .top], [(0, ⟨94, 2, false, enc e2 r, 0⟩)], 1, 0⟩ →
      W T c14_k0 st (Lift.Fin c14 (.own 0 0 (r ++ (ps.drop i).flatten ++ [(op, 0)]).length, [⟨94, 2, false, enc e2 (r ++ (ps.drop i).flatten ++ [(op, 0)]), 0⟩])) := by
  intro k
  induction k with
  | zero =>
    intro i r st hi hr hc
    have h1 : ¬ i < ps.length := by omega
    have e1 : ps.drop i = [] := List.drop_of_length_le (by omega)
    have hb : (r.length + 1) * 16 ≤ 140737488355328 := by omega
    have hb2 : r.length + 1 ≤ 140737488355328 := by omega
    rw [e1, List.flatten_nil, List.append_nil]
    unfold c14_k0
    refine W_round hc ?_
    unfold c14_l0
    repeat (first | refine W_assoc ?_ | (show W _ (.seq (.region _ _) _) _ _; refine W_reg (by simp; with_reducible rfl) ?_) | (show R _ _ _ (_ :: _) _ _ _ _; refine R_op (by simp (maxSteps := 2000000) [h1, hb, hb2]; with_reducible rfl) ?_) | (show R _ _ _ [] _ _ _ _; refine R_nil (by simp; with_reducible rfl) ?_) | (show W _ (.seq (.cond _ _ _) _) _ _; first | refine W_ct (by first | (simp [h1, hb, hb2]; done) | fail) ?_ | refine W_cf (by first | (simp [h1, hb, hb2]; done) | fail) ?_) | refine W_skip ?_ | refine W_bl (c := .seq _ _) ?_ | refine W_bl (c := .region _ _) ?_ | refine W_bl (c := .cond _ _ _) ?_ | refine W_bl (c := .block _ _) ?_ | refine W_rt ?_ | refine W_ex ?_ | refine W_end ?_ | refine W_tail (a := .region _ _) ?_ | refine W_tail (a := .cond _ _ _) ?_ | refine W_tail (a := .ret) ?_ | refine W_tail (a := .exit _) ?_ | refine W_tail (a := .block _ _) ?_ | refine QB_normal ?_ | refine QB_exit ?_ | refine QB_ret ?_ | refine QB_out (by decide) ?_ | refine QL_next ?_ | refine QL_exit ?_ | refine QL_ret ?_ | refine QL_out (by decide) ?_ | (show Fin _ _ .ret _; exact Fin_ret (by first | (simp [c14]; done) | (simp [c14]; with_reducible rfl))) | (show Fin _ _ .normal _; exact Fin_end (by first | (simp [c14]; done) | (simp [c14]; with_reducible rfl))))
  | succ k ih =>
    intro i r st hi hr hc
    have hlt : i < ps.length := by omega
    have hpi := hp i hlt
    have hw := wrapS i _ hlt (by omega)
    have hb : (r.length + (ps[i]).length) * 16 ≤ 140737488355328 := by omega
    have hb2 : r.length + (ps[i]).length ≤ 140737488355328 := by omega
    rw [List.drop_eq_getElem_cons hlt, List.flatten_cons, ← List.append_assoc r]
    unfold c14_k0
    by_cases he : ps[i] = []
    · rw [he, List.append_nil]
      refine W_round hc ?_
      unfold c14_l0
      have hb3 : r.length * 16 ≤ 140737488355328 := by omega
      have hb4 : r.length ≤ 140737488355328 := by omega
      repeat (first | refine W_assoc ?_ | (show W _ (.seq (.region _ _) _) _ _; refine W_reg (by simp; with_reducible rfl) ?_) | (show R _ _ _ (_ :: _) _ _ _ _; refine R_op (by simp (maxSteps := 2000000) [hlt, hw, he, hb3, hb4]; with_reducible rfl) ?_) | (show R _ _ _ [] _ _ _ _; refine R_nil (by simp; with_reducible rfl) ?_) | (show W _ (.seq (.cond _ _ _) _) _ _; first | refine W_ct (by first | (simp [hlt, hw, he, hb3, hb4]; done) | fail) ?_ | refine W_cf (by first | (simp [hlt, hw, he, hb3, hb4]; done) | fail) ?_) | refine W_skip ?_ | refine W_bl (c := .seq _ _) ?_ | refine W_bl (c := .region _ _) ?_ | refine W_bl (c := .cond _ _ _) ?_ | refine W_bl (c := .block _ _) ?_ | refine W_rt ?_ | refine W_ex ?_ | refine W_end ?_ | refine W_tail (a := .region _ _) ?_ | refine W_tail (a := .cond _ _ _) ?_ | refine W_tail (a := .ret) ?_ | refine W_tail (a := .exit _) ?_ | refine W_tail (a := .block _ _) ?_ | refine QB_normal ?_ | refine QB_exit ?_ | refine QB_ret ?_ | refine QB_out (by decide) ?_ | refine QL_next ?_ | refine QL_exit ?_ | refine QL_ret ?_ | refine QL_out (by decide) ?_ | (show Fin _ _ .ret _; exact Fin_ret (by first | (simp; done) | (simp; with_reducible rfl))) | (show Fin _ _ .normal _; exact Fin_end (by first | (simp; done) | (simp; with_reducible rfl))))
      exact ih (i + 1) r _ (by omega) (by omega) (by simp; try rfl)
    · have hne : ¬ (r.length + (ps[i]).length ≤ r.length) := by have := List.length_pos_iff.2 he; omega
      refine W_round hc ?_
      unfold c14_l0
      repeat (first | refine W_assoc ?_ | (show W _ (.seq (.region _ _) _) _ _; refine W_reg (by simp; with_reducible rfl) ?_) | (show R _ _ _ (_ :: _) _ _ _ _; refine R_op (by simp (maxSteps := 2000000) [hlt, hw, hb, hb2, hne]; with_reducible rfl) ?_) | (show R _ _ _ [] _ _ _ _; refine R_nil (by simp; with_reducible rfl) ?_) | (show W _ (.seq (.cond _ _ _) _) _ _; first | refine W_ct (by first | (simp [hlt, hw, hb, hb2, hne]; done) | fail) ?_ | refine W_cf (by first | (simp [hlt, hw, hb, hb2, hne]; done) | fail) ?_) | refine W_skip ?_ | refine W_bl (c := .seq _ _) ?_ | refine W_bl (c := .region _ _) ?_ | refine W_bl (c := .cond _ _ _) ?_ | refine W_bl (c := .block _ _) ?_ | refine W_rt ?_ | refine W_ex ?_ | refine W_end ?_ | refine W_tail (a := .region _ _) ?_ | refine W_tail (a := .cond _ _ _) ?_ | refine W_tail (a := .ret) ?_ | refine W_tail (a := .exit _) ?_ | refine W_tail (a := .block _ _) ?_ | refine QB_normal ?_ | refine QB_exit ?_ | refine QB_ret ?_ | refine QB_out (by decide) ?_ | refine QL_next ?_ | refine QL_exit ?_ | refine QL_ret ?_ | refine QL_out (by decide) ?_ | (show Fin _ _ .ret _; exact Fin_ret (by first | (simp; done) | (simp; with_reducible rfl))) | (show Fin _ _ .normal _; exact Fin_end (by first | (simp; done) | (simp; with_reducible rfl))))
      exact ih (i + 1) (r ++ ps[i]) _ (by omega) (by simp; omega) (by simp; try rfl)

theorem F_join (op : Int) (ps : List (List P2)) (hl : ps.length ≤ 5) (hp : ∀ (i : Nat) (h : i < ps.length), (ps[i]).length ≤ 50) :
    F T 14 [.int .i64 op, .ro 1 (enc eP ps) false] [] = some (.own 0 0 (ps.flatten ++ [(op, 0)]).length, [⟨94, 2, false, enc e2 (ps.flatten ++ [(op, 0)]), 0⟩]) := by
  refine F_W T14 ?_
  simp only [c14, c14_b, Lift.start]
  repeat (first | refine W_assoc ?_ | (show W _ (.seq (.region _ _) _) _ _; refine W_reg (by simp; with_reducible rfl) ?_) | (show R _ _ _ (_ :: _) _ _ _ _; refine R_op (by simp (maxSteps := 2000000); with_reducible rfl) ?_) | (show R _ _ _ [] _ _ _ _; refine R_nil (by simp; with_reducible rfl) ?_) | (show W _ (.seq (.cond _ _ _) _) _ _; first | refine W_ct (by first | (simp; done) | fail) ?_ | refine W_cf (by first | (simp; done) | fail) ?_) | refine W_skip ?_ | refine W_bl (c := .seq _ _) ?_ | refine W_bl (c := .region _ _) ?_ | refine W_bl (c := .cond _ _ _) ?_ | refine W_bl (c := .block _ _) ?_ | refine W_rt ?_ | refine W_ex ?_ | refine W_end ?_ | refine W_tail (a := .region _ _) ?_ | refine W_tail (a := .cond _ _ _) ?_ | refine W_tail (a := .ret) ?_ | refine W_tail (a := .exit _) ?_ | refine W_tail (a := .block _ _) ?_ | refine QB_normal ?_ | refine QB_exit ?_ | refine QB_ret ?_ | refine QB_out (by decide) ?_ | refine QL_next ?_ | refine QL_exit ?_ | refine QL_ret ?_ | refine QL_out (by decide) ?_ | (show Fin _ _ .ret _; exact Fin_ret (by first | (simp; done) | (simp; with_reducible rfl))) | (show Fin _ _ .normal _; exact Fin_end (by first | (simp; done) | (simp; with_reducible rfl))))
  have hz := join_loop op ps hl hp ps.length 0 []
  simp only [List.drop_zero, List.nil_append] at hz
  exact hz _ (by simp) (by simp) (by simp; try rfl)

theorem V_R09checkA (l : List P2) : FV (F T) 17 [.ro 2 (enc e2 l) false] = some (.int .i64 (chk l)) := by
  by_cases h1 : 31 < l.length
  · have h2 : (31 : Int) < l.length := by omega
    have hc : chk l = 4 := by unfold chk; rw [if_pos h1]
    rw [hc]
    have h : F T 17 [.ro 2 (enc e2 l) false] [] = some (.int .i64 4, []) := by
      refine F_W T17 ?_
      simp only [c17, c17_b, Lift.start]
      repeat (first | refine W_assoc ?_ | (show W _ (.seq (.region _ _) _) _ _; refine W_reg (by simp; with_reducible rfl) ?_) | (show R _ _ _ (_ :: _) _ _ _ _; refine R_op (by simp (maxSteps := 2000000) [h1, h2]; with_reducible rfl) ?_) | (show R _ _ _ [] _ _ _ _; refine R_nil (by simp; with_reducible rfl) ?_) | (show W _ (.seq (.cond _ _ _) _) _ _; first | refine W_ct (by first | (simp [h1, h2]; done) | fail) ?_ | refine W_cf (by first | (simp [h1, h2]; done) | fail) ?_) | refine W_skip ?_ | refine W_bl (c := .seq _ _) ?_ | refine W_bl (c := .region _ _) ?_ | refine W_bl (c := .cond _ _ _) ?_ | refine W_bl (c := .block _ _) ?_ | refine W_rt ?_ | refine W_ex ?_ | refine W_end ?_ | refine W_tail (a := .region _ _) ?_ | refine W_tail (a := .cond _ _ _) ?_ | refine W_tail (a := .ret) ?_ | refine W_tail (a := .exit _) ?_ | refine W_tail (a := .block _ _) ?_ | refine QB_normal ?_ | refine QB_exit ?_ | refine QB_ret ?_ | refine QB_out (by decide) ?_ | refine QL_next ?_ | refine QL_exit ?_ | refine QL_ret ?_ | refine QL_out (by decide) ?_ | (show Fin _ _ .ret _; exact Fin_ret (by first | (simp [c17]; done) | (simp [c17]; with_reducible rfl))) | (show Fin _ _ .normal _; exact Fin_end (by first | (simp [c17]; done) | (simp [c17]; with_reducible rfl))))
    simpa using FV_of h
  · exact V_R09check l (by omega)

theorem chk_post (t : Tr) (hg : good t = true) : chk (post t) = if 31 < (post t).length then 4 else if 8 < deep t then 4 else 0 := by
  unfold chk
  rw [made_of hg]

theorem chk_post' (t : Tr) (hg : good t = true) (n d : Nat) (hn : (post t).length = n) (hd : deep t = d) : chk (post t) = if 31 < n then 4 else if 8 < d then 4 else 0 := by
  subst hn; subst hd; exact chk_post t hg

theorem tree_post (t : Tr) (hg : good t = true) (h : chk (post t) = 0) : tree (post t) = some t := by
  unfold tree
  rw [if_pos h, made_of hg]

theorem saysL_post (x : Nat) (t : Tr) (hg : good t = true) (h : chk (post t) = 0) : saysL x (post t) = says x t := by
  unfold saysL
  rw [tree_post t hg h]

theorem chk_zero {l : List P2} (h : chk l = 0) : l.length ≤ 31 ∧ ∃ t, l = post t ∧ good t = true ∧ deep t ≤ 8 := by
  obtain ⟨t, h1, h2⟩ := tree_some h
  obtain ⟨hp, hg⟩ := made_post h1
  subst hp
  rw [chk_post t hg] at h
  have a : ¬ 31 < (post t).length := by intro e; rw [if_pos e] at h; cases h
  rw [if_neg a] at h
  have b : ¬ 8 < deep t := by intro e; rw [if_pos e] at h; cases h
  exact ⟨by omega, t, rfl, hg, by omega⟩

theorem row2 (a b : List P2) : enc eP [a, b] = [[.ro 2 (enc e2 a) false], [.ro 2 (enc e2 b) false]] := rfl
theorem row1 (a : List P2) : enc eP [a] = [[.ro 2 (enc e2 a) false]] := rfl

theorem V_depthT (t : Tr) (hg : good t = true) (h : chk (post t) = 0) (hl : (post t).length ≤ 100) : FV (F T) 21 [.ro 2 (enc e2 (post t)) false] = some (.int .i64 (deep t)) := by
  have := V_depth (post t) hl
  rw [tree_post t hg h] at this
  exact this

theorem V_PartsT (t : Tr) (hg : good t = true) (h : chk (post t) = 0) (hl : (post t).length ≤ 100) : FV (F T) 23 [.ro 2 (enc e2 (post t)) false] = some (.ro 1 (enc eP (partsT (some t))) false) := by
  obtain ⟨v, h1, rfl⟩ := V_Parts (post t) hl
  rw [tree_post t hg h] at h1
  exact h1

theorem V_SaysT (t : Tr) (hg : good t = true) (h : chk (post t) = 0) (hl : (post t).length ≤ 100) (x : Nat) (hx : x < 18446744073709551616) : FV (F T) 20 [.ro 2 (enc e2 (post t)) false, .int .u64 x] = some (.bool (says x t)) := by
  have := V_Says (post t) hl x hx
  rw [saysL_post x t hg h] at this
  exact this

theorem parts_in (ta tb : Tr) (hga : good ta = true) (hgb : good tb = true) (hca : chk (post ta) = 0) (hcb : chk (post tb) = 0) (x : Nat) (hx : x < 18446744073709551616) (la : (post ta).length ≤ 31) (lb : (post tb).length ≤ 31) (hda : deep ta ≤ 8) (hdb : deep tb ≤ 8) :
    F T 6 [.ro 2 (enc e2 (post ta)) false, .ro 2 (enc e2 (post tb)) false, .int .u64 x] [] = some (.bool true, []) := by
  have va := V_R09checkA (post ta)
  have vb := V_R09checkA (post tb)
  have hjA := F_join 4 [post ta, post tb] (by simp) (by intro i h; simp at h; rcases (show i = 0 ∨ i = 1 by omega) with rfl | rfl <;> simp <;> omega)
  have hjO := F_join 5 [post ta, post tb] (by simp) (by intro i h; simp at h; rcases (show i = 0 ∨ i = 1 by omega) with rfl | rfl <;> simp <;> omega)
  have hjN := F_join 3 [post ta] (by simp) (by intro i h; simp at h; subst h; simp; omega)
  rw [row2, show [post ta, post tb].flatten ++ [((4 : Int), (0 : Int))] = post (.two false ta tb) by simp [post]] at hjA
  rw [row2, show [post ta, post tb].flatten ++ [((5 : Int), (0 : Int))] = post (.two true ta tb) by simp [post]] at hjO
  rw [row1, show [post ta].flatten ++ [((3 : Int), (0 : Int))] = post (.no ta) by simp [post]] at hjN
  have hgA : good (.two false ta tb) = true := by simp [good, hga, hgb]
  have hgO : good (.two true ta tb) = true := by simp [good, hga, hgb]
  have hgN : good (.no ta) = true := by simp [good, hga]
  have lA : (post (.two false ta tb)).length = (post ta).length + (post tb).length + 1 := by simp [post]; omega
  have lO : (post (.two true ta tb)).length = (post ta).length + (post tb).length + 1 := by simp [post]; omega
  have lN : (post (.no ta)).length = (post ta).length + 1 := by simp [post]
  have cA := V_check (post (.two false ta tb)) (by omega)
  have cO := V_check (post (.two true ta tb)) (by omega)
  have cN := V_check (post (.no ta)) (by omega)
  have kA := chk_post' _ hgA _ (max (deep ta) (deep tb) + 1) lA (by simp [deep])
  have kO := chk_post' _ hgO _ (max (deep ta) (deep tb) + 1) lO (by simp [deep])
  have d1 := V_depthT ta hga hca (by omega)
  have d2 := V_depthT tb hgb hcb (by omega)
  have p1 := V_SaysT ta hga hca (by omega) x hx
  have p2 := V_SaysT tb hgb hcb (by omega) x hx
  have dA := fun h => V_depthT _ hgA h (by omega)
  have dO := fun h => V_depthT _ hgO h (by omega)
  have sA := fun h => V_SaysT _ hgA h (by omega) x hx
  have sO := fun h => V_SaysT _ hgO h (by omega) x hx
  have sN := fun h => V_SaysT _ hgN h (by omega) x hx
  have qA := fun h => V_PartsT _ hgA h (by omega)
  have qN := fun h => V_PartsT _ hgN h (by omega)
  have m2 := F_lists [post ta, post tb] [post ta, post tb] (by simp) (by intro q hq; simp at hq; rcases hq with rfl | rfl <;> omega) (by intro q hq; simp at hq; rcases hq with rfl | rfl <;> omega)
  have m1 := F_lists [post ta] [post ta] (by simp) (by intro q hq; simp at hq; subst hq; omega) (by intro q hq; simp at hq; subst hq; omega)
  simp only [partsT, decide_true, row2, row1] at qA qN m2 m1
  simp only [deep, says] at dA dO sA sO sN
  generalize post (.two false ta tb) = A at *
  generalize post (.two true ta tb) = O at *
  generalize post (.no ta) = N at *
  generalize post ta = a at *
  generalize post tb = b at *
  generalize deep ta = da at hda d1 kA kO dA dO
  generalize deep tb = db at hdb d2 kA kO dA dO
  generalize says x ta = pa at p1 sA sO sN
  generalize says x tb = pb at p2 sA sO
  have w1 : IntKind.i64.wrap ((a.length : Int) + b.length) = (a.length : Int) + b.length := by rw [wrap_i64 _ (by omega) (by omega)]
  have w2 : IntKind.i64.wrap ((a.length : Int) + b.length + 1) = (a.length : Int) + b.length + 1 := by rw [wrap_i64 _ (by omega) (by omega)]
  have hmax : (if da < db then (db : Int) else da) = ((max da db : Nat) : Int) := by split <;> omega
  generalize max da db = d at *
  have w3 : IntKind.i64.wrap ((d : Int) + 1) = (d : Int) + 1 := by rw [wrap_i64 _ (by omega) (by omega)]
  rw [hca] at va
  rw [hcb] at vb
  refine F_W T6 ?_
  simp only [c6, c6_b, Lift.start]
  by_cases h1 : 31 < a.length + b.length + 1
  · have h1' : (31 : Int) < (a.length : Int) + b.length + 1 := by omega
    rw [if_pos h1] at kA kO
    rw [kA] at cA
    rw [kO] at cO
    by_cases hN : chk N = 0
    · have s := sN hN
      have q := qN hN
      rw [hN] at cN
      repeat (first | refine W_assoc ?_ | (show W _ (.seq (.region _ _) _) _ _; refine W_reg (by simp; with_reducible rfl) ?_) | (show R _ _ _ (_ :: _) _ _ _ _; refine R_op (by simp (maxSteps := 2000000) [va, vb, hjA, hjO, hjN, d1, d2, p1, p2, hmax, w1, w2, w3, h1', cA, cO, cN, s, q, m1, V_works09]; with_reducible rfl) ?_) | (show R _ _ _ [] _ _ _ _; refine R_nil (by simp; with_reducible rfl) ?_) | (show W _ (.seq (.cond _ _ _) _) _ _; first | refine W_ct (by first | (simp [va, vb, hjA, hjO, hjN, d1, d2, p1, p2, hmax, w1, w2, w3, h1', cA, cO, cN, s, q, m1, V_works09]; done) | fail) ?_ | refine W_cf (by first | (simp [va, vb, hjA, hjO, hjN, d1, d2, p1, p2, hmax, w1, w2, w3, h1', cA, cO, cN, s, q, m1, V_works09]; done) | fail) ?_) | refine W_skip ?_ | refine W_bl (c := .seq _ _) ?_ | refine W_bl (c := .region _ _) ?_ | refine W_bl (c := .cond _ _ _) ?_ | refine W_bl (c := .block _ _) ?_ | refine W_rt ?_ | refine W_ex ?_ | refine W_end ?_ | refine W_tail (a := .region _ _) ?_ | refine W_tail (a := .cond _ _ _) ?_ | refine W_tail (a := .ret) ?_ | refine W_tail (a := .exit _) ?_ | refine W_tail (a := .block _ _) ?_ | refine QB_normal ?_ | refine QB_exit ?_ | refine QB_ret ?_ | refine QB_out (by decide) ?_ | refine QL_next ?_ | refine QL_exit ?_ | refine QL_ret ?_ | refine QL_out (by decide) ?_ | (show Fin _ _ .ret _; exact Fin_ret (by first | (simp [c6]; done) | (simp [c6]; with_reducible rfl))) | (show Fin _ _ .normal _; exact Fin_end (by first | (simp [c6]; done) | (simp [c6]; with_reducible rfl))))
    · repeat (first | refine W_assoc ?_ | (show W _ (.seq (.region _ _) _) _ _; refine W_reg (by simp; with_reducible rfl) ?_) | (show R _ _ _ (_ :: _) _ _ _ _; refine R_op (by simp (maxSteps := 2000000) [va, vb, hjA, hjO, hjN, d1, d2, p1, p2, hmax, w1, w2, w3, h1', cA, cO, cN, hN, V_works09]; with_reducible rfl) ?_) | (show R _ _ _ [] _ _ _ _; refine R_nil (by simp; with_reducible rfl) ?_) | (show W _ (.seq (.cond _ _ _) _) _ _; first | refine W_ct (by first | (simp [va, vb, hjA, hjO, hjN, d1, d2, p1, p2, hmax, w1, w2, w3, h1', cA, cO, cN, hN, V_works09]; done) | fail) ?_ | refine W_cf (by first | (simp [va, vb, hjA, hjO, hjN, d1, d2, p1, p2, hmax, w1, w2, w3, h1', cA, cO, cN, hN, V_works09]; done) | fail) ?_) | refine W_skip ?_ | refine W_bl (c := .seq _ _) ?_ | refine W_bl (c := .region _ _) ?_ | refine W_bl (c := .cond _ _ _) ?_ | refine W_bl (c := .block _ _) ?_ | refine W_rt ?_ | refine W_ex ?_ | refine W_end ?_ | refine W_tail (a := .region _ _) ?_ | refine W_tail (a := .cond _ _ _) ?_ | refine W_tail (a := .ret) ?_ | refine W_tail (a := .exit _) ?_ | refine W_tail (a := .block _ _) ?_ | refine QB_normal ?_ | refine QB_exit ?_ | refine QB_ret ?_ | refine QB_out (by decide) ?_ | refine QL_next ?_ | refine QL_exit ?_ | refine QL_ret ?_ | refine QL_out (by decide) ?_ | (show Fin _ _ .ret _; exact Fin_ret (by first | (simp [c6]; done) | (simp [c6]; with_reducible rfl))) | (show Fin _ _ .normal _; exact Fin_end (by first | (simp [c6]; done) | (simp [c6]; with_reducible rfl))))
  have h1' : ¬ (31 : Int) < (a.length : Int) + b.length + 1 := by omega
  rw [if_neg h1] at kA kO
  by_cases h2 : 8 < d + 1
  · have h2' : (8 : Int) < (d : Int) + 1 := by omega
    rw [if_pos h2] at kA kO
    rw [kA] at cA
    rw [kO] at cO
    by_cases hN : chk N = 0
    · have s := sN hN
      have q := qN hN
      rw [hN] at cN
      repeat (first | refine W_assoc ?_ | (show W _ (.seq (.region _ _) _) _ _; refine W_reg (by simp; with_reducible rfl) ?_) | (show R _ _ _ (_ :: _) _ _ _ _; refine R_op (by simp (maxSteps := 2000000) [va, vb, hjA, hjO, hjN, d1, d2, p1, p2, hmax, w1, w2, w3, h1', h2', cA, cO, cN, s, q, m1, V_works09]; with_reducible rfl) ?_) | (show R _ _ _ [] _ _ _ _; refine R_nil (by simp; with_reducible rfl) ?_) | (show W _ (.seq (.cond _ _ _) _) _ _; first | refine W_ct (by first | (simp [va, vb, hjA, hjO, hjN, d1, d2, p1, p2, hmax, w1, w2, w3, h1', h2', cA, cO, cN, s, q, m1, V_works09]; done) | fail) ?_ | refine W_cf (by first | (simp [va, vb, hjA, hjO, hjN, d1, d2, p1, p2, hmax, w1, w2, w3, h1', h2', cA, cO, cN, s, q, m1, V_works09]; done) | fail) ?_) | refine W_skip ?_ | refine W_bl (c := .seq _ _) ?_ | refine W_bl (c := .region _ _) ?_ | refine W_bl (c := .cond _ _ _) ?_ | refine W_bl (c := .block _ _) ?_ | refine W_rt ?_ | refine W_ex ?_ | refine W_end ?_ | refine W_tail (a := .region _ _) ?_ | refine W_tail (a := .cond _ _ _) ?_ | refine W_tail (a := .ret) ?_ | refine W_tail (a := .exit _) ?_ | refine W_tail (a := .block _ _) ?_ | refine QB_normal ?_ | refine QB_exit ?_ | refine QB_ret ?_ | refine QB_out (by decide) ?_ | refine QL_next ?_ | refine QL_exit ?_ | refine QL_ret ?_ | refine QL_out (by decide) ?_ | (show Fin _ _ .ret _; exact Fin_ret (by first | (simp [c6]; done) | (simp [c6]; with_reducible rfl))) | (show Fin _ _ .normal _; exact Fin_end (by first | (simp [c6]; done) | (simp [c6]; with_reducible rfl))))
    · repeat (first | refine W_assoc ?_ | (show W _ (.seq (.region _ _) _) _ _; refine W_reg (by simp; with_reducible rfl) ?_) | (show R _ _ _ (_ :: _) _ _ _ _; refine R_op (by simp (maxSteps := 2000000) [va, vb, hjA, hjO, hjN, d1, d2, p1, p2, hmax, w1, w2, w3, h1', h2', cA, cO, cN, hN, V_works09]; with_reducible rfl) ?_) | (show R _ _ _ [] _ _ _ _; refine R_nil (by simp; with_reducible rfl) ?_) | (show W _ (.seq (.cond _ _ _) _) _ _; first | refine W_ct (by first | (simp [va, vb, hjA, hjO, hjN, d1, d2, p1, p2, hmax, w1, w2, w3, h1', h2', cA, cO, cN, hN, V_works09]; done) | fail) ?_ | refine W_cf (by first | (simp [va, vb, hjA, hjO, hjN, d1, d2, p1, p2, hmax, w1, w2, w3, h1', h2', cA, cO, cN, hN, V_works09]; done) | fail) ?_) | refine W_skip ?_ | refine W_bl (c := .seq _ _) ?_ | refine W_bl (c := .region _ _) ?_ | refine W_bl (c := .cond _ _ _) ?_ | refine W_bl (c := .block _ _) ?_ | refine W_rt ?_ | refine W_ex ?_ | refine W_end ?_ | refine W_tail (a := .region _ _) ?_ | refine W_tail (a := .cond _ _ _) ?_ | refine W_tail (a := .ret) ?_ | refine W_tail (a := .exit _) ?_ | refine W_tail (a := .block _ _) ?_ | refine QB_normal ?_ | refine QB_exit ?_ | refine QB_ret ?_ | refine QB_out (by decide) ?_ | refine QL_next ?_ | refine QL_exit ?_ | refine QL_ret ?_ | refine QL_out (by decide) ?_ | (show Fin _ _ .ret _; exact Fin_ret (by first | (simp [c6]; done) | (simp [c6]; with_reducible rfl))) | (show Fin _ _ .normal _; exact Fin_end (by first | (simp [c6]; done) | (simp [c6]; with_reducible rfl))))
  have h2' : ¬ (8 : Int) < (d : Int) + 1 := by omega
  rw [if_neg h2] at kA kO
  rw [kA] at cA
  rw [kO] at cO
  have e1 := dO kO
  have e2 := sA kA
  have e3 := sO kO
  have e4 := qA kA
  simp at e1 e2 e3
  by_cases hN : chk N = 0
  · have s := sN hN
    have q := qN hN
    rw [hN] at cN
    cases pa <;> cases pb
    all_goals
      repeat (first | refine W_assoc ?_ | (show W _ (.seq (.region _ _) _) _ _; refine W_reg (by simp; with_reducible rfl) ?_) | (show R _ _ _ (_ :: _) _ _ _ _; refine R_op (by simp (maxSteps := 2000000) [va, vb, hjA, hjO, hjN, d1, d2, p1, p2, hmax, w1, w2, w3, h1', h2', cA, cO, cN, s, q, m1, m2, e1, e2, e3, e4, V_works09]; with_reducible rfl) ?_) | (show R _ _ _ [] _ _ _ _; refine R_nil (by simp; with_reducible rfl) ?_) | (show W _ (.seq (.cond _ _ _) _) _ _; first | refine W_ct (by first | (simp [va, vb, hjA, hjO, hjN, d1, d2, p1, p2, hmax, w1, w2, w3, h1', h2', cA, cO, cN, s, q, m1, m2, e1, e2, e3, e4, V_works09]; done) | fail) ?_ | refine W_cf (by first | (simp [va, vb, hjA, hjO, hjN, d1, d2, p1, p2, hmax, w1, w2, w3, h1', h2', cA, cO, cN, s, q, m1, m2, e1, e2, e3, e4, V_works09]; done) | fail) ?_) | refine W_skip ?_ | refine W_bl (c := .seq _ _) ?_ | refine W_bl (c := .region _ _) ?_ | refine W_bl (c := .cond _ _ _) ?_ | refine W_bl (c := .block _ _) ?_ | refine W_rt ?_ | refine W_ex ?_ | refine W_end ?_ | refine W_tail (a := .region _ _) ?_ | refine W_tail (a := .cond _ _ _) ?_ | refine W_tail (a := .ret) ?_ | refine W_tail (a := .exit _) ?_ | refine W_tail (a := .block _ _) ?_ | refine QB_normal ?_ | refine QB_exit ?_ | refine QB_ret ?_ | refine QB_out (by decide) ?_ | refine QL_next ?_ | refine QL_exit ?_ | refine QL_ret ?_ | refine QL_out (by decide) ?_ | (show Fin _ _ .ret _; exact Fin_ret (by first | (simp [c6]; done) | (simp [c6]; with_reducible rfl))) | (show Fin _ _ .normal _; exact Fin_end (by first | (simp [c6]; done) | (simp [c6]; with_reducible rfl))))
  · cases pa <;> cases pb
    all_goals
      repeat (first | refine W_assoc ?_ | (show W _ (.seq (.region _ _) _) _ _; refine W_reg (by simp; with_reducible rfl) ?_) | (show R _ _ _ (_ :: _) _ _ _ _; refine R_op (by simp (maxSteps := 2000000) [va, vb, hjA, hjO, hjN, d1, d2, p1, p2, hmax, w1, w2, w3, h1', h2', cA, cO, cN, hN, m2, e1, e2, e3, e4, V_works09]; with_reducible rfl) ?_) | (show R _ _ _ [] _ _ _ _; refine R_nil (by simp; with_reducible rfl) ?_) | (show W _ (.seq (.cond _ _ _) _) _ _; first | refine W_ct (by first | (simp [va, vb, hjA, hjO, hjN, d1, d2, p1, p2, hmax, w1, w2, w3, h1', h2', cA, cO, cN, hN, m2, e1, e2, e3, e4, V_works09]; done) | fail) ?_ | refine W_cf (by first | (simp [va, vb, hjA, hjO, hjN, d1, d2, p1, p2, hmax, w1, w2, w3, h1', h2', cA, cO, cN, hN, m2, e1, e2, e3, e4, V_works09]; done) | fail) ?_) | refine W_skip ?_ | refine W_bl (c := .seq _ _) ?_ | refine W_bl (c := .region _ _) ?_ | refine W_bl (c := .cond _ _ _) ?_ | refine W_bl (c := .block _ _) ?_ | refine W_rt ?_ | refine W_ex ?_ | refine W_end ?_ | refine W_tail (a := .region _ _) ?_ | refine W_tail (a := .cond _ _ _) ?_ | refine W_tail (a := .ret) ?_ | refine W_tail (a := .exit _) ?_ | refine W_tail (a := .block _ _) ?_ | refine QB_normal ?_ | refine QB_exit ?_ | refine QB_ret ?_ | refine QB_out (by decide) ?_ | refine QL_next ?_ | refine QL_exit ?_ | refine QL_ret ?_ | refine QL_out (by decide) ?_ | (show Fin _ _ .ret _; exact Fin_ret (by first | (simp [c6]; done) | (simp [c6]; with_reducible rfl))) | (show Fin _ _ .normal _; exact Fin_end (by first | (simp [c6]; done) | (simp [c6]; with_reducible rfl))))

theorem parts_ok (a b : List P2) (x : Nat) (hx : x < 18446744073709551616) : F T 6 [.ro 2 (enc e2 a) false, .ro 2 (enc e2 b) false, .int .u64 x] [] = some (.bool true, []) := by
  have va := V_R09checkA a
  have vb := V_R09checkA b
  by_cases ha : chk a = 0
  · by_cases hb : chk b = 0
    · obtain ⟨la, ta, rfl, hga, da⟩ := chk_zero ha
      obtain ⟨lb, tb, rfl, hgb, db⟩ := chk_zero hb
      exact parts_in ta tb hga hgb ha hb x hx la lb da db
    · refine F_W T6 ?_
      simp only [c6, c6_b, Lift.start]
      repeat (first | refine W_assoc ?_ | (show W _ (.seq (.region _ _) _) _ _; refine W_reg (by simp; with_reducible rfl) ?_) | (show R _ _ _ (_ :: _) _ _ _ _; refine R_op (by simp (maxSteps := 2000000) [va, vb, ha, hb, V_works09]; with_reducible rfl) ?_) | (show R _ _ _ [] _ _ _ _; refine R_nil (by simp; with_reducible rfl) ?_) | (show W _ (.seq (.cond _ _ _) _) _ _; first | refine W_ct (by first | (simp [va, vb, ha, hb, V_works09]; done) | fail) ?_ | refine W_cf (by first | (simp [va, vb, ha, hb, V_works09]; done) | fail) ?_) | refine W_skip ?_ | refine W_bl (c := .seq _ _) ?_ | refine W_bl (c := .region _ _) ?_ | refine W_bl (c := .cond _ _ _) ?_ | refine W_bl (c := .block _ _) ?_ | refine W_rt ?_ | refine W_ex ?_ | refine W_end ?_ | refine W_tail (a := .region _ _) ?_ | refine W_tail (a := .cond _ _ _) ?_ | refine W_tail (a := .ret) ?_ | refine W_tail (a := .exit _) ?_ | refine W_tail (a := .block _ _) ?_ | refine QB_normal ?_ | refine QB_exit ?_ | refine QB_ret ?_ | refine QB_out (by decide) ?_ | refine QL_next ?_ | refine QL_exit ?_ | refine QL_ret ?_ | refine QL_out (by decide) ?_ | (show Fin _ _ .ret _; exact Fin_ret (by first | (simp [c6]; done) | (simp [c6]; with_reducible rfl))) | (show Fin _ _ .normal _; exact Fin_end (by first | (simp [c6]; done) | (simp [c6]; with_reducible rfl))))
  · refine F_W T6 ?_
    simp only [c6, c6_b, Lift.start]
    repeat (first | refine W_assoc ?_ | (show W _ (.seq (.region _ _) _) _ _; refine W_reg (by simp; with_reducible rfl) ?_) | (show R _ _ _ (_ :: _) _ _ _ _; refine R_op (by simp (maxSteps := 2000000) [va, ha, V_works09]; with_reducible rfl) ?_) | (show R _ _ _ [] _ _ _ _; refine R_nil (by simp; with_reducible rfl) ?_) | (show W _ (.seq (.cond _ _ _) _) _ _; first | refine W_ct (by first | (simp [va, ha, V_works09]; done) | fail) ?_ | refine W_cf (by first | (simp [va, ha, V_works09]; done) | fail) ?_) | refine W_skip ?_ | refine W_bl (c := .seq _ _) ?_ | refine W_bl (c := .region _ _) ?_ | refine W_bl (c := .cond _ _ _) ?_ | refine W_bl (c := .block _ _) ?_ | refine W_rt ?_ | refine W_ex ?_ | refine W_end ?_ | refine W_tail (a := .region _ _) ?_ | refine W_tail (a := .cond _ _ _) ?_ | refine W_tail (a := .ret) ?_ | refine W_tail (a := .exit _) ?_ | refine W_tail (a := .block _ _) ?_ | refine QB_normal ?_ | refine QB_exit ?_ | refine QB_ret ?_ | refine QB_out (by decide) ?_ | refine QL_next ?_ | refine QL_exit ?_ | refine QL_ret ?_ | refine QL_out (by decide) ?_ | (show Fin _ _ .ret _; exact Fin_ret (by first | (simp [c6]; done) | (simp [c6]; with_reducible rfl))) | (show Fin _ _ .normal _; exact Fin_end (by first | (simp [c6]; done) | (simp [c6]; with_reducible rfl))))

end Go.Proofs.Ytnobgooojbppbab.Need
