/- test -/
import Derived.Test.YtnobgooojbppbaaQueue
set_option linter.all false
set_option linter.unusedSimpArgs false
set_option maxRecDepth 100000
set_option maxHeartbeats 1000000
namespace Go.Proofs.Ytnobgooojbppbaa.Queue
open Go Go.RowKit Go.Proofs.Ytnobgooojbppbaa.Lift Go.Proofs.Ytnobgooojbppbaa.TS Go.Proofs.Ytnobgooojbppbaa.Base

theorem R29_Drop_loop (l : List P2) (j : Int) (hl : l.length ≤ 1000000) :
    ∀ (k i : Nat) (r : List P2) (st : ASt), i + k = l.length → r.length ≤ i → canon [0, 1, 5, 6] st = ⟨[.ro 2 (enc e2 l) false, .int .i64 j, .top, .top, .top, .own 0 0 r.length, .int .i64 i, .top, .top, .top, .top, .top, .top, .top, .top, .top, .top, .top, .top, .top, .top, .top, .top, .top, .top, .top, .top, .top], [(0, ⟨80, 2, false, enc e2 r, 0⟩)], 1, 0⟩ → W T c64_k0 st (Lift.Fin c64 (.own 0 0 (r ++ (l.drop i).flatMap (fun x : P2 => if x.1 = j then [] else [x])).length, [⟨80, 2, false, enc e2 (r ++ (l.drop i).flatMap (fun x : P2 => if x.1 = j then [] else [x])), 0⟩])) := by
  intro k
  induction k with
  | zero =>
    intro i r st hi hr hc
    have h1 : ¬ i < l.length := by omega
    have e1 : l.drop i = [] := List.drop_of_length_le (by omega)
    unfold c64_k0
    refine W_exit (by rw [hc]; simp (maxSteps := 2000000) [c64_l0, h1]; with_reducible rfl) ?_
    exact W_fin (ex := .ret) (by simp (maxSteps := 2000000); with_reducible rfl) (by simp) (by first | (simp [c64, e1]; done) | (simp [c64, e1]; with_reducible rfl))
  | succ k ih =>
    intro i r st hi hr hc
    have hlt : i < l.length := by omega
    have hw := wrapS i _ hlt (by omega)
    have d1 := List.drop_eq_getElem_cons hlt
    have hb : (r.length + 1) * 16 ≤ 140737488355328 := by omega
    have hb2 : r.length + 1 ≤ 140737488355328 := by omega
    unfold c64_k0
    rw [d1, List.flatMap_cons, ← List.append_assoc]
    by_cases he : (fun x : P2 => decide (x.1 = j)) l[i] = true
    · simp only [] at he
      simp at he
      refine W_next (by rw [hc]; simp (maxSteps := 2000000) [c64_l0, hlt, hw, hb, hb2, he]; with_reducible rfl) ?_
      exact ih (i + 1) (r ++ (fun x : P2 => if x.1 = j then [] else [x]) l[i]) _ (by omega) (by simp [he]; try omega) (by simp [he]; try rfl)
    · simp only [Bool.not_eq_true] at he
      simp at he
      refine W_next (by rw [hc]; simp (maxSteps := 2000000) [c64_l0, hlt, hw, hb, hb2, he]; with_reducible rfl) ?_
      exact ih (i + 1) (r ++ (fun x : P2 => if x.1 = j then [] else [x]) l[i]) _ (by omega) (by simp [he]; try omega) (by simp [he]; try rfl)

theorem F_R29_Drop (l : List P2) (j : Int) (hl : l.length ≤ 1000000) : F T 64 [.ro 2 (enc e2 l) false, .int .i64 j] [] = some (.own 0 0 (l.flatMap (fun x : P2 => if x.1 = j then [] else [x])).length, [⟨80, 2, false, enc e2 (l.flatMap (fun x : P2 => if x.1 = j then [] else [x])), 0⟩]) := by
  refine F_W T64 ?_
  simp only [c64, c64_b, Lift.start]
  repeat (first | refine W_assoc ?_ | refine W_go (a := .region _ _) (by simp (maxSteps := 2000000); with_reducible rfl) ?_ | refine W_go (a := .cond _ _ _) (by simp (maxSteps := 2000000); with_reducible rfl) ?_ | refine W_go (a := .block _ (.seq _ _)) (by simp (maxSteps := 2000000); with_reducible rfl) ?_)
  have hz := R29_Drop_loop l j hl l.length 0 []
  simp only [List.drop_zero, List.nil_append] at hz
  exact hz _ (by simp) (by simp) (by simp; try rfl)


theorem R29_Move_loop (l : List P2) (j s : Int) (hl : l.length ≤ 1000000) :
    ∀ (k i : Nat) (r : List P2) (st : ASt), i + k = l.length → r.length ≤ i → canon [0, 1, 2, 7, 8] st = ⟨[.ro 2 (enc e2 l) false, .int .i64 j, .int .i64 s, .top, .top, .top, .top, .own 0 0 r.length, .int .i64 i, .top, .top, .top, .top, .top, .top, .top, .top, .top, .top, .top, .top, .top, .top, .top, .top, .top, .top, .top, .top, .top, .top], [(0, ⟨80, 2, false, enc e2 r, 0⟩)], 1, 0⟩ → W T c66_k0 st (Lift.Fin c66 (.own 0 0 (r ++ (l.drop i).flatMap (fun x : P2 => if x.1 = j then [(x.1, s)] else [x])).length, [⟨80, 2, false, enc e2 (r ++ (l.drop i).flatMap (fun x : P2 => if x.1 = j then [(x.1, s)] else [x])), 0⟩])) := by
  intro k
  induction k with
  | zero =>
    intro i r st hi hr hc
    have h1 : ¬ i < l.length := by omega
    have e1 : l.drop i = [] := List.drop_of_length_le (by omega)
    unfold c66_k0
    refine W_exit (by rw [hc]; simp (maxSteps := 2000000) [c66_l0, h1]; with_reducible rfl) ?_
    exact W_fin (ex := .ret) (by simp (maxSteps := 2000000); with_reducible rfl) (by simp) (by first | (simp [c66, e1]; done) | (simp [c66, e1]; with_reducible rfl))
  | succ k ih =>
    intro i r st hi hr hc
    have hlt : i < l.length := by omega
    have hw := wrapS i _ hlt (by omega)
    have d1 := List.drop_eq_getElem_cons hlt
    have hb : (r.length + 1) * 16 ≤ 140737488355328 := by omega
    have hb2 : r.length + 1 ≤ 140737488355328 := by omega
    unfold c66_k0
    rw [d1, List.flatMap_cons, ← List.append_assoc]
    by_cases he : (fun x : P2 => decide (x.1 = j)) l[i] = true
    · simp only [] at he
      simp at he
      refine W_next (by rw [hc]; simp (maxSteps := 2000000) [c66_l0, hlt, hw, hb, hb2, he]; with_reducible rfl) ?_
      exact ih (i + 1) (r ++ (fun x : P2 => if x.1 = j then [(x.1, s)] else [x]) l[i]) _ (by omega) (by simp [he]; try omega) (by simp [he]; try rfl)
    · simp only [Bool.not_eq_true] at he
      simp at he
      refine W_next (by rw [hc]; simp (maxSteps := 2000000) [c66_l0, hlt, hw, hb, hb2, he]; with_reducible rfl) ?_
      exact ih (i + 1) (r ++ (fun x : P2 => if x.1 = j then [(x.1, s)] else [x]) l[i]) _ (by omega) (by simp [he]; try omega) (by simp [he]; try rfl)

theorem F_R29_Move (l : List P2) (j s : Int) (hl : l.length ≤ 1000000) : F T 66 [.ro 2 (enc e2 l) false, .int .i64 j, .int .i64 s] [] = some (.own 0 0 (l.flatMap (fun x : P2 => if x.1 = j then [(x.1, s)] else [x])).length, [⟨80, 2, false, enc e2 (l.flatMap (fun x : P2 => if x.1 = j then [(x.1, s)] else [x])), 0⟩]) := by
  refine F_W T66 ?_
  simp only [c66, c66_b, Lift.start]
  repeat (first | refine W_assoc ?_ | refine W_go (a := .region _ _) (by simp (maxSteps := 2000000); with_reducible rfl) ?_ | refine W_go (a := .cond _ _ _) (by simp (maxSteps := 2000000); with_reducible rfl) ?_ | refine W_go (a := .block _ (.seq _ _)) (by simp (maxSteps := 2000000); with_reducible rfl) ?_)
  have hz := R29_Move_loop l j s hl l.length 0 []
  simp only [List.drop_zero, List.nil_append] at hz
  exact hz _ (by simp) (by simp) (by simp; try rfl)


theorem L29_Of_loop (l : List P2)  (hl : l.length ≤ 1000000) :
    ∀ (k i : Nat) (r : List P2) (st : ASt), i + k = l.length → r.length ≤ i → canon [0, 3, 4] st = ⟨[.ro 2 (enc e2 l) false, .top, .top, .own 0 0 r.length, .int .i64 i, .top, .top, .top, .top, .top, .top, .top, .top, .top, .top, .top, .top, .top, .top, .top, .top, .top, .top, .top, .top, .top], [(0, ⟨84, 2, false, enc e2 r, 0⟩)], 1, 0⟩ → W T c57_k0 st (Lift.Fin c57 (.own 0 0 (r ++ (l.drop i).flatMap (fun x : P2 => [x])).length, [⟨84, 2, false, enc e2 (r ++ (l.drop i).flatMap (fun x : P2 => [x])), 0⟩])) := by
  intro k
  induction k with
  | zero =>
    intro i r st hi hr hc
    have h1 : ¬ i < l.length := by omega
    have e1 : l.drop i = [] := List.drop_of_length_le (by omega)
    unfold c57_k0
    refine W_exit (by rw [hc]; simp (maxSteps := 2000000) [c57_l0, h1]; with_reducible rfl) ?_
    exact W_fin (ex := .ret) (by simp (maxSteps := 2000000); with_reducible rfl) (by simp) (by first | (simp [c57, e1]; done) | (simp [c57, e1]; with_reducible rfl))
  | succ k ih =>
    intro i r st hi hr hc
    have hlt : i < l.length := by omega
    have hw := wrapS i _ hlt (by omega)
    have d1 := List.drop_eq_getElem_cons hlt
    have hb : (r.length + 1) * 16 ≤ 140737488355328 := by omega
    have hb2 : r.length + 1 ≤ 140737488355328 := by omega
    unfold c57_k0
    rw [d1, List.flatMap_cons, ← List.append_assoc]
    have he : True := trivial
    · refine W_next (by rw [hc]; simp (maxSteps := 2000000) [c57_l0, hlt, hw, hb, hb2]; with_reducible rfl) ?_
      exact ih (i + 1) (r ++ (fun x : P2 => [x]) l[i]) _ (by omega) (by simp; try omega) (by simp; try rfl)

theorem F_L29_Of (l : List P2)  (hl : l.length ≤ 1000000) : F T 57 [.ro 2 (enc e2 l) false] [] = some (.own 0 0 (l.flatMap (fun x : P2 => [x])).length, [⟨84, 2, false, enc e2 (l.flatMap (fun x : P2 => [x])), 0⟩]) := by
  refine F_W T57 ?_
  simp only [c57, c57_b, Lift.start]
  repeat (first | refine W_assoc ?_ | refine W_go (a := .region _ _) (by simp (maxSteps := 2000000); with_reducible rfl) ?_ | refine W_go (a := .cond _ _ _) (by simp (maxSteps := 2000000); with_reducible rfl) ?_ | refine W_go (a := .block _ (.seq _ _)) (by simp (maxSteps := 2000000); with_reducible rfl) ?_)
  have hz := L29_Of_loop l  hl l.length 0 []
  simp only [List.drop_zero, List.nil_append] at hz
  exact hz _ (by simp) (by simp) (by simp; try rfl)


/-- A place moved. -/
def mv (j s : Int) (x : P2) : P2 := if x.1 = j then (x.1, s) else x

theorem move_loop (j s : Int) (n : Nat) (hn : n ≤ 1000000) :
    ∀ (k i : Nat) (r : List P2) (st : ASt), i + k = n → r.length = n → canon [1, 2, 7, 12, 13, 14] st = ⟨[.top, .int .i64 j, .int .i64 s, .top, .top, .top, .top, .own 0 0 n, .top, .top, .top, .top, .own 0 0 n, .int .i64 n, .int .i64 i, .top, .top, .top, .top, .top, .top, .top, .top, .top, .top, .top, .top, .top, .top, .top], [(0, ⟨84, 2, false, enc e2 r, 0⟩)], 1, 0⟩ →
      W T c61_k0 st (Lift.Fin c61 (.own 0 0 n, [⟨84, 2, false, enc e2 (r.take i ++ (r.drop i).map (mv j s)), 0⟩])) := by
  intro k
  induction k with
  | zero =>
    intro i r st hi hr hc
    have h1 : ¬ i < n := by omega
    have e1 : r.drop i = [] := List.drop_of_length_le (by omega)
    have e2 : r.take i = r := List.take_of_length_le (by omega)
    unfold c61_k0
    refine W_exit (by rw [hc]; simp (maxSteps := 2000000) [c61_l0, h1]; with_reducible rfl) ?_
    exact W_fin (ex := .ret) (by simp (maxSteps := 2000000) [hr]; with_reducible rfl) (by simp) (by first | (simp [c61, e1, e2, hr]; done) | (simp [c61, e1, e2, hr]; with_reducible rfl))
  | succ k ih =>
    intro i r st hi hr hc
    have hlt : i < n := by omega
    have hlr : i < r.length := by omega
    have hw := wrapS i _ hlt (by omega)
    unfold c61_k0
    by_cases he : r[i].1 = j
    · have hm : mv j s r[i] = (j, s) := by simp [mv, he]
      rw [← mut_step (mv j s) r i hlr, hm]
      refine W_next (by rw [hc]; simp (maxSteps := 2000000) [c61_l0, hlt, hlr, hw, he, hr]; with_reducible rfl) ?_
      exact ih (i + 1) _ _ (by omega) (by simp [hr]) (by simp; try rfl)
    · have hm : mv j s r[i] = r[i] := by simp [mv, he]
      rw [← mut_skip (mv j s) r i hlr hm]
      refine W_next (by rw [hc]; simp (maxSteps := 2000000) [c61_l0, hlt, hlr, hw, he, hr]; with_reducible rfl) ?_
      exact ih (i + 1) _ _ (by omega) (by simp [hr]) (by simp; try rfl)

theorem F_move (l : List P2) (hl : l.length ≤ 1000000) (j s : Int) : F T 61 [.ro 2 (enc e2 l) false, .int .i64 j, .int .i64 s] [] =
    some (.own 0 0 l.length, [⟨84, 2, false, enc e2 (l.map (mv j s)), 0⟩]) := by
  have h2 := F_clo l hl
  refine F_W T61 ?_
  simp only [c61, c61_b, Lift.start]
  repeat (first | refine W_assoc ?_ | refine W_go (a := .region _ _) (by simp (maxSteps := 2000000) [h2]; with_reducible rfl) ?_ | refine W_go (a := .cond _ _ _) (by simp (maxSteps := 2000000) [h2]; with_reducible rfl) ?_ | refine W_go (a := .block _ (.seq _ _)) (by simp (maxSteps := 2000000) [h2]; with_reducible rfl) ?_)
  have hz := move_loop j s l.length hl l.length 0 l
  simp only [List.drop_zero, List.take_zero, List.nil_append] at hz
  exact hz _ (by simp) (by simp) (by simp; try rfl)

theorem F_drop (l : List P2) (hl : l.length ≤ 1000000) (j : Int) : F T 60 [.ro 2 (enc e2 l) false, .int .i64 j] [] =
    some (.tup [.own 0 0 (l.filter fun x => !decide (x.1 = j)).length, .bool (decide ((l.filter fun x => !decide (x.1 = j)).length < l.length))],
      [⟨84, 2, false, enc e2 ((l.filter fun x => !decide (x.1 = j)) ++ List.replicate (l.length - (l.filter fun x => !decide (x.1 = j)).length) (0, 0)), 0⟩]) := by
  have h2 := F_clo l hl
  have h3 := F_del (fun x => decide (x.1 = j)) 127 [.int .i64 j] l hl (fun x _ => F_of1 x.1 x.2 j)
  refine F_W T60 ?_
  exact W_fin (ex := .ret) (by simp (maxSteps := 2000000) [c60, c60_b, h2, V_of, h3]; with_reducible rfl) (by simp) (by first | (simp [c60]; done) | (simp [c60]; with_reducible rfl))

theorem L29_Is_loop (l m : List P2) (hl : l.length ≤ 140737488355328) (hlm : l.length = m.length) :
    ∀ (k i : Nat) (st : ASt), i + k = l.length → canon [0, 1, 5] st = ⟨[.ro 2 (enc e2 l) false, .ro 2 (enc e2 m) false, .top, .top, .top, .int .i64 i, .top, .top, .top, .top, .top, .top, .top, .top, .top, .top, .top, .top, .top, .top, .top, .top, .top, .top, .top, .top, .top, .top, .top, .top, .top, .top, .top, .top, .top, .top, .top, .top, .top, .top, .top], [], 0, 0⟩ → W T c63_k0 st (Lift.Fin c63 (.bool (decide (l.drop i = m.drop i)), [])) := by
  intro k
  induction k with
  | zero =>
    intro i st hi hc
    have h1 : ¬ i < l.length := by omega
    have e1 : l.drop i = [] := List.drop_of_length_le (by omega)
    have e2 : m.drop i = [] := List.drop_of_length_le (by omega)
    unfold c63_k0
    refine W_exit (by rw [hc]; simp (maxSteps := 2000000) [c63_l0, h1]; with_reducible rfl) ?_
    exact W_fin (ex := .ret) (by simp (maxSteps := 2000000); with_reducible rfl) (by simp) (by first | (simp [c63, e1, e2]; done) | (simp [c63, e1, e2]; with_reducible rfl))
  | succ k ih =>
    intro i st hi hc
    have hlt : i < l.length := by omega
    have hlt2 : i < m.length := by omega
    have hw := wrapS i _ hlt hl
    have d1 := List.drop_eq_getElem_cons hlt
    have d2 := List.drop_eq_getElem_cons hlt2
    unfold c63_k0
    by_cases he : l[i] = m[i]
    · rw [d1, d2, he]
      simp only [List.cons.injEq, true_and]
      refine W_next (by rw [hc]; simp (maxSteps := 2000000) [c63_l0, hlt, hlt2, hw, he, eqCs, hlm]; with_reducible rfl) ?_
      exact ih (i + 1) _ (by omega) (by simp [hlm])
    · have hd : decide (l.drop i = m.drop i) = false := by
        rw [decide_eq_false_iff_not, d1, d2]; intro e; injection e with e _; exact he e
      rw [hd]
      by_cases h1 : l[i].1 = m[i].1
      · have h2 : ¬ l[i].2 = m[i].2 := fun e => he (Prod.ext h1 e)
        exact W_ret (by rw [hc]; simp (maxSteps := 2000000) [c63_l0, hlt, hlt2, h1, h2, hlm]; with_reducible rfl) (Fin_ret (by simp [c63]))
      · exact W_ret (by rw [hc]; simp (maxSteps := 2000000) [c63_l0, hlt, hlt2, h1, hlm]; with_reducible rfl) (Fin_ret (by simp [c63]))

theorem F_L29_Is (l m : List P2) (hl : l.length ≤ 1000000) (hm : m.length ≤ 1000000) : F T 63 [.ro 2 (enc e2 l) false, .ro 2 (enc e2 m) false] [] = some (.bool (decide (l = m)), []) := by
  refine F_W T63 ?_
  by_cases h : l.length = m.length
  · simp only [c63, c63_b, Lift.start]
    repeat (first | refine W_assoc ?_ | refine W_go (a := .region _ _) (by simp (maxSteps := 2000000) [h]; with_reducible rfl) ?_ | refine W_go (a := .cond _ _ _) (by simp (maxSteps := 2000000) [h]; with_reducible rfl) ?_ | refine W_go (a := .block _ (.seq _ _)) (by simp (maxSteps := 2000000) [h]; with_reducible rfl) ?_)
    have := L29_Is_loop l m (by omega) h l.length 0
    simp only [List.drop_zero] at this
    exact this _ (by simp) (by simp [h])
  · have h1 : decide (l = m) = false := by
      rw [decide_eq_false_iff_not]; intro e; exact h (by rw [e])
    have h2 : ¬ (l.length : Int) = (m.length : Int) := by omega
    rw [h1]
    exact W_fin (ex := .ret) (by simp (maxSteps := 2000000) [c63, c63_b, h2, h]; with_reducible rfl) (by simp) (by first | (simp [c63]; done) | (simp [c63]; with_reducible rfl))

theorem R06_In_loop (l : List Int) (j : Int) (hl : l.length ≤ 140737488355328) :
    ∀ (k i : Nat) (st : ASt), i + k = l.length → canon [0, 1, 5] st = ⟨[.ro 1 (enc (eInt .i64) l) false, .int .i64 j, .top, .top, .top, .int .i64 i, .top, .top, .top, .top, .top, .top, .top, .top, .top, .top, .top, .top], [], 0, 0⟩ → W T c70_k0 st (Lift.Fin c70 (.bool ((l.drop i).any fun x => decide (x = j)), [])) := by
  intro k
  induction k with
  | zero =>
    intro i st hi hc
    have h1 : ¬ i < l.length := by omega
    have e1 : l.drop i = [] := List.drop_of_length_le (by omega)
    unfold c70_k0
    refine W_exit (by rw [hc]; simp (maxSteps := 2000000) [c70_l0, h1]; with_reducible rfl) ?_
    exact W_fin (ex := .ret) (by simp (maxSteps := 2000000); with_reducible rfl) (by simp) (by first | (simp [c70, e1]; done) | (simp [c70, e1]; with_reducible rfl))
  | succ k ih =>
    intro i st hi hc
    have hlt : i < l.length := by omega
    have hw := wrapS i _ hlt hl
    have d1 := List.drop_eq_getElem_cons hlt
    unfold c70_k0
    by_cases he : (fun x : Int => decide (x = j)) l[i] = true
    · simp only [d1, List.any_cons]
      simp only [] at he
      rw [he]
      simp at he
      exact W_ret (by rw [hc]; simp (maxSteps := 2000000) [c70_l0, hlt, he]; with_reducible rfl) (Fin_ret (by simp [c70]))
    · simp only [d1, List.any_cons]
      simp only [Bool.not_eq_true] at he
      rw [he]
      simp at he
      refine W_next (by rw [hc]; simp (maxSteps := 2000000) [c70_l0, hlt, hw, he]; with_reducible rfl) ?_
      exact ih (i + 1) _ (by omega) (by simp)

theorem V_push (l : List P2) (hl : l.length ≤ 1000000) (lim : Int) (p : P2) : FV (F T) 59 [.ro 2 (enc e2 l) false, .int .i64 lim, .agg (e2 p)] =
    some (.tup [.ro 2 (enc e2 (push l lim p).1) false, .int .i64 (push l lim p).2]) := by
  have h1 := FV_of (F_R29_Has l hl p.1)
  have hb : (l.length + 1) * 16 ≤ 140737488355328 := by omega
  have hb2 : l.length + 1 ≤ 140737488355328 := by omega
  have hb3 : l.length * 16 ≤ 140737488355328 := by omega
  have hb4 : l.length ≤ 140737488355328 := by omega
  simp at h1
  cases h : l.any (fun x => decide (x.1 = p.1)) with
  | true =>
    rw [h] at h1
    simp only [push, h, if_true]
    refine FV_W T59 (r := ?r1) (W_fin (ex := .ret) (by simp [c59, c59_b, h1]; with_reducible rfl) (by simp) (by first | (simp [c59]; done) | (simp [c59]; with_reducible rfl))) (by simp)
  | false =>
    rw [h] at h1
    by_cases hf : lim ≤ l.length
    · simp only [push, h, if_pos hf, Bool.false_eq_true, if_false]
      refine FV_W T59 (r := ?r2) (W_fin (ex := .ret) (by simp [c59, c59_b, h1, hf]; with_reducible rfl) (by simp) (by first | (simp [c59]; done) | (simp [c59]; with_reducible rfl))) (by simp)
    · simp only [push, h, if_neg hf, Bool.false_eq_true, if_false]
      refine FV_W T59 (r := ?r3) (W_fin (ex := .ret) (by simp [c59, c59_b, h1, hf, hb, hb2, hb3, hb4]; with_reducible rfl) (by simp) (by first | (simp [c59]; done) | (simp [c59]; with_reducible rfl))) (by simp)

theorem V_works : FV (F T) 56 [] = some (.bool true) := by
  have hw : F T 56 [] [] = some (.bool true, []) := F_iff.2 ⟨200, by kernel_rfl⟩
  have h := FV_of hw
  simpa using h

theorem F_same (l m : List P2) (hl : l.length ≤ 1000000) (hm : m.length ≤ 1000000) : F T 68 [.ro 2 (enc e2 l) false, .ro 2 (enc e2 m) false] [] = some (.bool (decide (l = m)), []) := by
  have h := FV_of (F_EQU l m hl hm)
  simp at h
  refine F_W T68 ?_
  exact W_fin (ex := .ret) (by simp (maxSteps := 2000000) [c68, c68_b, h]; with_reducible rfl) (by simp) (by first | (simp [c68]; done) | (simp [c68]; with_reducible rfl))

theorem any_filter (p : P2 → Bool) (l : List P2) : decide ((l.filter fun x => !p x).length < l.length) = l.any p := by
  cases h : l.any p with
  | false =>
    rw [List.any_eq_false] at h
    rw [List.filter_eq_self.2 (fun x hx => by simpa using h x hx)]; simp
  | true =>
    rw [decide_eq_true_iff, List.length_filter_lt_length_iff_exists]
    obtain ⟨x, hx, hp⟩ := List.any_eq_true.1 h
    exact ⟨x, hx, by simp [hp]⟩

theorem flatMap_mv (l : List P2) (a b : Int) : l.flatMap (fun x : P2 => if x.1 = a then [(x.1, b)] else [x]) = l.map (mv a b) := flatMap_if (fun x : P2 => x.1 = a) (fun x => (x.1, b)) (fun x => x) l


end Go.Proofs.Ytnobgooojbppbaa.Queue
