/- aa worker's slots: what becomes of a task that has ended. -/
import Derived.Test.YtnobgooojbppbaaSlots
set_option linter.all false
set_option linter.unusedSimpArgs false
set_option maxRecDepth 100000
set_option maxHeartbeats 2000000
namespace Go.Proofs.Ytnobgooojbppbaa.Slots
open Go Go.RowKit Go.Proofs.Ytnobgooojbppbaa.Lift Go.Proofs.Ytnobgooojbppbaa.TS Go.Proofs.Ytnobgooojbppbaa.Base Go.Proofs.Ytnobgooojbppbaa.Queue

theorem F_eq1 (x t : P2) : F T 124 [.agg (e2 x), .rref (e2 t)] [] = some (.bool (decide (x = t)), []) := by
  refine F_W T124 ?_
  by_cases h : x = t
  · subst h
    simp only [decide_true]
    simp only [c124, c124_b, Lift.start]
    repeat (first | refine W_assoc ?_ | (show W _ (.seq (.region _ _) _) _ _; refine W_reg (by simp; with_reducible rfl) ?_) | (show R _ _ _ (_ :: _) _ _ _ _; refine R_op (by simp (maxSteps := 2000000) [eqCs]; with_reducible rfl) ?_) | (show R _ _ _ [] _ _ _ _; refine R_nil (by simp; with_reducible rfl) ?_) | (show W _ (.seq (.cond _ _ _) _) _ _; first | refine W_ct (by first | (simp [eqCs]; done) | fail) ?_ | refine W_cf (by first | (simp [eqCs]; done) | fail) ?_) | refine W_skip ?_ | refine W_bl (c := .seq _ _) ?_ | refine W_bl (c := .region _ _) ?_ | refine W_bl (c := .cond _ _ _) ?_ | refine W_bl (c := .block _ _) ?_ | refine W_rt ?_ | refine W_ex ?_ | refine W_end ?_ | refine W_tail (a := .region _ _) ?_ | refine W_tail (a := .cond _ _ _) ?_ | refine W_tail (a := .ret) ?_ | refine W_tail (a := .exit _) ?_ | refine W_tail (a := .block _ _) ?_ | refine QB_normal ?_ | refine QB_exit ?_ | refine QB_ret ?_ | refine QB_out (by decide) ?_ | refine QL_next ?_ | refine QL_exit ?_ | refine QL_ret ?_ | refine QL_out (by decide) ?_ | (show Fin _ _ .ret _; exact Fin_ret (by first | (simp [c124]; done) | (simp [c124]; with_reducible rfl))) | (show Fin _ _ .normal _; exact Fin_end (by first | (simp [c124]; done) | (simp [c124]; with_reducible rfl))))
  · have hne := e2_ne h
    simp only [h, decide_false]
    simp only [c124, c124_b, Lift.start]
    repeat (first | refine W_assoc ?_ | (show W _ (.seq (.region _ _) _) _ _; refine W_reg (by simp; with_reducible rfl) ?_) | (show R _ _ _ (_ :: _) _ _ _ _; refine R_op (by simp (maxSteps := 2000000) [eqCs, hne]; with_reducible rfl) ?_) | (show R _ _ _ [] _ _ _ _; refine R_nil (by simp; with_reducible rfl) ?_) | (show W _ (.seq (.cond _ _ _) _) _ _; first | refine W_ct (by first | (simp [eqCs, hne]; done) | fail) ?_ | refine W_cf (by first | (simp [eqCs, hne]; done) | fail) ?_) | refine W_skip ?_ | refine W_bl (c := .seq _ _) ?_ | refine W_bl (c := .region _ _) ?_ | refine W_bl (c := .cond _ _ _) ?_ | refine W_bl (c := .block _ _) ?_ | refine W_rt ?_ | refine W_ex ?_ | refine W_end ?_ | refine W_tail (a := .region _ _) ?_ | refine W_tail (a := .cond _ _ _) ?_ | refine W_tail (a := .ret) ?_ | refine W_tail (a := .exit _) ?_ | refine W_tail (a := .block _ _) ?_ | refine QB_normal ?_ | refine QB_exit ?_ | refine QB_ret ?_ | refine QB_out (by decide) ?_ | refine QL_next ?_ | refine QL_exit ?_ | refine QL_ret ?_ | refine QL_out (by decide) ?_ | (show Fin _ _ .ret _; exact Fin_ret (by first | (simp [c124]; done) | (simp [c124]; with_reducible rfl))) | (show Fin _ _ .normal _; exact Fin_end (by first | (simp [c124]; done) | (simp [c124]; with_reducible rfl))))

section
variable (p : P2 → Bool) (g : Nat) (cap : List AV)

theorem tidx_loop (l : List P2) (hl : l.length ≤ 140737488355328) (hp : ∀ x ∈ l, F T g [.agg (e2 x), .rref cap] [] = some (.bool (p x), [])) :
    ∀ (k i : Nat) (st : ASt), i + k = l.length → (∀ j (hj : j < l.length), j < i → p l[j] = false) → canon [0, 1, 7, 8] st = ⟨[.ro 2 (enc e2 l) false, .fn (.func g) [] [.rref cap], .top, .top, .top, .top, .top, .int .i64 l.length, .int .i64 i, .top, .top, .top, .top, .top, .top, .top, .top, .top, .top], [], 0, 0⟩ → W T c123_k0 st (Lift.Fin c123 (.int .i64 (fidx p l), [])) := by
  intro k
  induction k with
  | zero =>
    intro i st hi hb hc
    have e : fidx p l = -1 := by
      refine fidx_none ?_
      rw [List.any_eq_false]
      intro x hx
      obtain ⟨j, hj, rfl⟩ := List.mem_iff_getElem.1 hx
      simpa using hb j hj (by omega)
    have h1 : ¬ i < l.length := by omega
    unfold c123_k0
    refine W_exit (by rw [hc]; simp (maxSteps := 2000000) [c123_l0, h1]; with_reducible rfl) ?_
    exact W_fin (ex := .ret) (by simp (maxSteps := 2000000); with_reducible rfl) (by simp) (by first | (simp [c123, e]; done) | (simp [c123, e]; with_reducible rfl))
  | succ k ih =>
    intro i st hi hb hc
    have hlt : i < l.length := by omega
    have hw := wrapS i _ hlt hl
    have hcall := hp l[i] (List.getElem_mem hlt)
    simp only [e2] at hcall
    unfold c123_k0
    by_cases hpi : p l[i] = true
    · have e : fidx p l = i := by
        unfold fidx
        rw [List.findIdx?_eq_some_iff_getElem.2 ⟨hlt, hpi, fun j hj => by simpa using hb j (by omega) hj⟩]
      rw [hpi] at hcall
      exact W_ret (by rw [hc]; simp (maxSteps := 2000000) [c123_l0, hlt, hcall]; with_reducible rfl) (Fin_ret (by simp [c123, e]))
    · have hpi : p l[i] = false := by simpa using hpi
      rw [hpi] at hcall
      refine W_next (by rw [hc]; simp (maxSteps := 2000000) [c123_l0, hlt, hcall, hw]; with_reducible rfl) ?_
      exact ih (i + 1) _ (by omega) (fun j hj h => by
        rcases Nat.lt_or_ge j i with h1 | h1
        · exact hb j hj h1
        · obtain rfl : j = i := by omega
          exact hpi) (by simp)

theorem F_tidx (l : List P2) (hl : l.length ≤ 140737488355328) (hp : ∀ x ∈ l, F T g [.agg (e2 x), .rref cap] [] = some (.bool (p x), [])) :
    F T 123 [.ro 2 (enc e2 l) false, .fn (.func g) [] [.rref cap]] [] = some (.int .i64 (fidx p l), []) := by
  refine F_W T123 ?_
  simp only [c123, c123_b, Lift.start]
  repeat (first | refine W_assoc ?_ | refine W_go (a := .region _ _) (by simp (maxSteps := 2000000); with_reducible rfl) ?_ | refine W_go (a := .cond _ _ _) (by simp (maxSteps := 2000000); with_reducible rfl) ?_ | refine W_go (a := .block _ (.seq _ _)) (by simp (maxSteps := 2000000); with_reducible rfl) ?_)
  exact tidx_loop p g cap l hl hp l.length 0 _ (by simp) (fun j hj h => by omega) (by simp)
end

/-- aa list without one of its elements. -/
def er (rr : List P2) (t : P2) : List P2 := if rr.any (fun x => decide (x = t)) then rr.eraseIdx (fidx (fun x => decide (x = t)) rr).toNat else rr

theorem er_len (rr : List P2) (t : P2) : (er rr t).length ≤ rr.length := by
  unfold er
  split
  · rw [List.length_eraseIdx]; split <;> omega
  · omega

theorem del_rest (rr : List P2) (i : Nat) (hi : i < rr.length) : ((rr.take i ++ rr.drop (i + 1)) ++ rr.drop (rr.length - 1)).take (rr.length - 1) = rr.take i ++ rr.drop (i + 1) := by
  rw [List.take_append_of_le_length (by simp; omega)]
  exact List.take_of_length_le (by simp; omega)

theorem F_tdel1 (x : P2) : F T 125 [.own 0 0 1, .int .i64 0, .int .i64 1] [⟨134, 2, false, enc e2 [x], 0⟩] = some (.rl 0 0, [⟨134, 2, false, enc e2 [(0, 0)], 0⟩]) := by
  refine F_W T125 ?_
  simp only [c125, c125_b, Lift.start]
  repeat (first | refine W_assoc ?_ | (show W _ (.seq (.region _ _) _) _ _; refine W_reg (by simp; with_reducible rfl) ?_) | (show R _ _ _ (_ :: _) _ _ _ _; refine R_op (by simp (maxSteps := 2000000); with_reducible rfl) ?_) | (show R _ _ _ [] _ _ _ _; refine R_nil (by simp; with_reducible rfl) ?_) | (show W _ (.seq (.cond _ _ _) _) _ _; first | refine W_ct (by first | (simp; done) | fail) ?_ | refine W_cf (by first | (simp; done) | fail) ?_) | refine W_skip ?_ | refine W_bl (c := .seq _ _) ?_ | refine W_bl (c := .region _ _) ?_ | refine W_bl (c := .cond _ _ _) ?_ | refine W_bl (c := .block _ _) ?_ | refine W_rt ?_ | refine W_ex ?_ | refine W_end ?_ | refine W_tail (a := .region _ _) ?_ | refine W_tail (a := .cond _ _ _) ?_ | refine W_tail (a := .ret) ?_ | refine W_tail (a := .exit _) ?_ | refine W_tail (a := .block _ _) ?_ | refine QB_normal ?_ | refine QB_exit ?_ | refine QB_ret ?_ | refine QB_out (by decide) ?_ | refine QL_next ?_ | refine QL_exit ?_ | refine QL_ret ?_ | refine QL_out (by decide) ?_ | (show Fin _ _ .ret _; exact Fin_ret (by first | (simp [c125]; done) | (simp [c125]; with_reducible rfl))) | (show Fin _ _ .normal _; exact Fin_end (by first | (simp [c125]; done) | (simp [c125]; with_reducible rfl))))

theorem F_tdel0 (x : P2) (t : List P2) (ht : 0 < t.length) (hl : t.length ≤ 1000000) : F T 125 [.own 0 0 (t.length + 1), .int .i64 0, .int .i64 1] [⟨134, 2, false, enc e2 (x :: t), 0⟩] =
    some (.own 0 0 t.length, [⟨134, 2, false, enc e2 (t ++ [(0, 0)]), 0⟩]) := by
  have h5 : (1 : Int) ≤ t.length + 1 := by omega
  have h6 : 1 ≤ t.length + 1 := by omega
  have h7 : ¬ (t.length : Int) + 1 = 1 := by omega
  have h8 : (0 : Int) ≤ (t.length : Int) + 1 := by omega
  have h9 : ¬ t.length = 0 := by omega
  have ha : ¬ t = [] := fun e => by rw [e] at ht; simp at ht
  have hb : 1 + t.length ≤ t.length + 1 := by omega
  have hc : (t.length : Int) ≤ t.length + 1 := by omega
  have hd : t.length ≤ t.length + 1 := by omega
  have he : ¬ (t.length : Int) + 1 = t.length := by omega
  refine F_W T125 ?_
  simp only [c125, c125_b, Lift.start]
  repeat (first | refine W_assoc ?_ | (show W _ (.seq (.region _ _) _) _ _; refine W_reg (by simp; with_reducible rfl) ?_) | (show R _ _ _ (_ :: _) _ _ _ _; refine R_op (by simp (maxSteps := 2000000) [h5, h6, h7, h8, h9, ha, hb, hc, hd, he, ht]; with_reducible rfl) ?_) | (show R _ _ _ [] _ _ _ _; refine R_nil (by simp; with_reducible rfl) ?_) | (show W _ (.seq (.cond _ _ _) _) _ _; first | refine W_ct (by first | (simp [h5, h6, h7, h8, h9, ha, hb, hc, hd, he, ht]; done) | fail) ?_ | refine W_cf (by first | (simp [h5, h6, h7, h8, h9, ha, hb, hc, hd, he, ht]; done) | fail) ?_) | refine W_skip ?_ | refine W_bl (c := .seq _ _) ?_ | refine W_bl (c := .region _ _) ?_ | refine W_bl (c := .cond _ _ _) ?_ | refine W_bl (c := .block _ _) ?_ | refine W_rt ?_ | refine W_ex ?_ | refine W_end ?_ | refine W_tail (a := .region _ _) ?_ | refine W_tail (a := .cond _ _ _) ?_ | refine W_tail (a := .ret) ?_ | refine W_tail (a := .exit _) ?_ | refine W_tail (a := .block _ _) ?_ | refine QB_normal ?_ | refine QB_exit ?_ | refine QB_ret ?_ | refine QB_out (by decide) ?_ | refine QL_next ?_ | refine QL_exit ?_ | refine QL_ret ?_ | refine QL_out (by decide) ?_ | (show Fin _ _ .ret _; exact Fin_ret (by first | (simp [c125]; done) | (simp [c125]; with_reducible rfl))) | (show Fin _ _ .normal _; exact Fin_end (by first | (simp [c125]; done) | (simp [c125]; with_reducible rfl))))

theorem F_tdel2 (rr : List P2) (hl : rr.length ≤ 1000000) (i : Nat) (hi : i + 1 < rr.length) (hp : 0 < i) : F T 125 [.own 0 0 rr.length, .int .i64 i, .int .i64 (i + 1)] [⟨134, 2, false, enc e2 rr, 0⟩] =
    some (.own 0 0 (rr.length - 1), [⟨134, 2, false, enc e2 (rr.take i ++ rr.drop (i + 1) ++ [(0, 0)]), 0⟩]) := by
  have h1 : ¬ (i : Int) = i + 1 := by omega
  have h2 : i ≤ rr.length := by omega
  have h3 : (i : Int) ≤ rr.length := by omega
  have h4 : (i : Int) + 1 ≤ rr.length := by omega
  have h5 : i + 1 ≤ rr.length := by omega
  have h6 : (i : Int) ≤ i + 1 := by omega
  have h7 : 0 < rr.length := by omega
  have h8 : ¬ i = 0 := by omega
  have h9 : ¬ (i : Int) = 0 := by omega
  have ha : ¬ (rr.length : Int) = i + 1 := by omega
  have hb : ((i : Int) + 1).toNat = i + 1 := by omega
  have hc : i + 1 + (rr.length - (i + 1)) = rr.length := by omega
  have hd : i + (rr.length - (i + 1)) = rr.length - 1 := by omega
  have he : rr.length - 1 ≤ rr.length := by omega
  have hf : (0 : Int) ≤ (i : Int) + 1 := by omega
  have hg : i + 1 + (rr.length - (i + 1)) ≤ rr.length := by omega
  have hh : (rr.length - 1) * 16 ≤ 140737488355328 := by omega
  have hj : rr.length ≤ 140737488355329 := by omega
  have hk : ((rr.length - 1 : Nat) : Int) ≤ rr.length := by omega
  have hm : (rr.length : Int) ≤ i + (((rr.length - (i + 1) : Nat) : Int) + 1) := by omega
  have ho : 0 < rr.length - 1 := by omega
  have hq : rr.length - (rr.length - 1) = 1 := by omega
  have hr : rr.length ≤ i + (rr.length - (i + 1) + 1) := by omega
  have hs : rr.length - 1 + 1 = rr.length := by omega
  have x1 : (rr.drop (i + 1)).take (rr.length - (i + 1)) = rr.drop (i + 1) := List.take_of_length_le (by simp)
  have x2 : (rr.take i ++ (rr.drop (i + 1) ++ rr.drop (rr.length - 1))).take (rr.length - 1) = rr.take i ++ rr.drop (i + 1) := by
    rw [← List.append_assoc]; exact del_rest rr i (by omega)
  have x3 : (rr.take i ++ (rr.drop (i + 1) ++ rr.drop (rr.length - 1))).drop rr.length = [] := List.drop_of_length_le (by simp; omega)
  have hl2 : ¬ (rr.length : Int) = ((rr.length - 1 : Nat) : Int) := by omega
  refine F_W T125 ?_
  simp only [c125, c125_b, Lift.start]
  repeat (first | refine W_assoc ?_ | (show W _ (.seq (.region _ _) _) _ _; refine W_reg (by simp; with_reducible rfl) ?_) | (show R _ _ _ (_ :: _) _ _ _ _; refine R_op (by simp (maxSteps := 2000000) [h1, h2, h3, h4, h5, h6, h7, h8, h9, hp, ha, hb, hc, hd, he, hf, hg, hh, hj, hk, hl2, hm, ho, hq, hr, hs]; with_reducible rfl) ?_) | (show R _ _ _ [] _ _ _ _; refine R_nil (by simp; with_reducible rfl) ?_) | (show W _ (.seq (.cond _ _ _) _) _ _; first | refine W_ct (by first | (simp [h1, h2, h3, h4, h5, h6, h7, h8, h9, hp, ha, hb, hc, hd, he, hf, hg, hh, hj, hk, hl2, hm, ho, hq, hr, hs]; done) | fail) ?_ | refine W_cf (by first | (simp [h1, h2, h3, h4, h5, h6, h7, h8, h9, hp, ha, hb, hc, hd, he, hf, hg, hh, hj, hk, hl2, hm, ho, hq, hr, hs]; done) | fail) ?_) | refine W_skip ?_ | refine W_bl (c := .seq _ _) ?_ | refine W_bl (c := .region _ _) ?_ | refine W_bl (c := .cond _ _ _) ?_ | refine W_bl (c := .block _ _) ?_ | refine W_rt ?_ | refine W_ex ?_ | refine W_end ?_ | refine W_tail (a := .region _ _) ?_ | refine W_tail (a := .cond _ _ _) ?_ | refine W_tail (a := .ret) ?_ | refine W_tail (a := .exit _) ?_ | refine W_tail (a := .block _ _) ?_ | refine QB_normal ?_ | refine QB_exit ?_ | refine QB_ret ?_ | refine QB_out (by decide) ?_ | refine QL_next ?_ | refine QL_exit ?_ | refine QL_ret ?_ | refine QL_out (by decide) ?_ | (show Fin _ _ .ret _; exact Fin_ret (by first | (simp [c125, x1, x2, x3]; done) | (simp [c125, x1, x2, x3]; with_reducible rfl))) | (show Fin _ _ .normal _; exact Fin_end (by first | (simp [c125, x1, x2, x3]; done) | (simp [c125, x1, x2, x3]; with_reducible rfl))))

theorem F_tdelL (rr : List P2) (hl : rr.length ≤ 1000000) (i : Nat) (hi : i + 1 = rr.length) (hp : 0 < i) : F T 125 [.own 0 0 rr.length, .int .i64 i, .int .i64 (i + 1)] [⟨134, 2, false, enc e2 rr, 0⟩] =
    some (.own 0 0 i, [⟨134, 2, false, enc e2 (rr.take i ++ [(0, 0)]), 0⟩]) := by
  rw [← hi]
  have h1 : ¬ (i : Int) = i + 1 := by omega
  have h2 : i ≤ rr.length := by omega
  have h3 : (i : Int) ≤ i + 1 := by omega
  have h4 : (0 : Int) ≤ (i : Int) + 1 := by omega
  have h5 : i ≤ i + 1 := by omega
  have h7 : 0 < i + 1 := by omega
  have h8 : ¬ i = 0 := by omega
  have h9 : ¬ (i : Int) = 0 := by omega
  have hi2 : rr.length = i + 1 := hi.symm
  have hb : ((i : Int) + 1).toNat = i + 1 := by omega
  have hc : i * 16 ≤ 140737488355328 := by omega
  have hd : i ≤ 140737488355328 := by omega
  have he : ¬ (i : Int) + 1 = i := by omega
  have hf : ¬ i + 1 = i := by omega
  have hg : i + 1 - i = 1 := by omega
  have x1 : (rr.take i ++ rr.drop i).take i = rr.take i := by simp
  have x3 : (rr.take i ++ rr.drop i).drop (i + 1) = [] := List.drop_of_length_le (by simp; omega)
  have x4 : rr.drop (i + 1) = [] := List.drop_of_length_le (by omega)
  refine F_W T125 ?_
  simp only [c125, c125_b, Lift.start]
  repeat (first | refine W_assoc ?_ | (show W _ (.seq (.region _ _) _) _ _; refine W_reg (by simp; with_reducible rfl) ?_) | (show R _ _ _ (_ :: _) _ _ _ _; refine R_op (by simp (maxSteps := 2000000) [h1, h2, h3, h4, h5, h7, h8, h9, hp, hi2, hb, hc, hd, he, hf, hg]; with_reducible rfl) ?_) | (show R _ _ _ [] _ _ _ _; refine R_nil (by simp; with_reducible rfl) ?_) | (show W _ (.seq (.cond _ _ _) _) _ _; first | refine W_ct (by first | (simp [h1, h2, h3, h4, h5, h7, h8, h9, hp, hi2, hb, hc, hd, he, hf, hg]; done) | fail) ?_ | refine W_cf (by first | (simp [h1, h2, h3, h4, h5, h7, h8, h9, hp, hi2, hb, hc, hd, he, hf, hg]; done) | fail) ?_) | refine W_skip ?_ | refine W_bl (c := .seq _ _) ?_ | refine W_bl (c := .region _ _) ?_ | refine W_bl (c := .cond _ _ _) ?_ | refine W_bl (c := .block _ _) ?_ | refine W_rt ?_ | refine W_ex ?_ | refine W_end ?_ | refine W_tail (a := .region _ _) ?_ | refine W_tail (a := .cond _ _ _) ?_ | refine W_tail (a := .ret) ?_ | refine W_tail (a := .exit _) ?_ | refine W_tail (a := .block _ _) ?_ | refine QB_normal ?_ | refine QB_exit ?_ | refine QB_ret ?_ | refine QB_out (by decide) ?_ | refine QL_next ?_ | refine QL_exit ?_ | refine QL_ret ?_ | refine QL_out (by decide) ?_ | (show Fin _ _ .ret _; exact Fin_ret (by first | (simp [c125, x1, x3, x4]; done) | (simp [c125, x1, x3, x4]; with_reducible rfl))) | (show Fin _ _ .normal _; exact Fin_end (by first | (simp [c125, x1, x3, x4]; done) | (simp [c125, x1, x3, x4]; with_reducible rfl))))

/-- What a slots' task list is behind an end, and whether there was such a task. -/
theorem er_hit (rr : List P2) (t : P2) (i : Nat) (hi : fidx (fun x => decide (x = t)) rr = i) (h : rr.any (fun x => decide (x = t)) = true) : er rr t = rr.take i ++ rr.drop (i + 1) := by
  unfold er
  rw [if_pos h, hi]
  simp only [Int.toNat_natCast]
  exact List.eraseIdx_eq_take_drop_succ _ _

theorem V_end (n : Int) (aa oo rr : List P2) (hr : rr.length ≤ 1000000) (j k : Int) :
    FV (F T) 102 [.agg [.int .i64 n, .ro 2 (enc e2 aa) false, .ro 2 (enc e2 oo) false, .ro 2 (enc e2 rr) false], .agg [.int .i64 j, .int .i64 k]] =
      some (.tup [.agg [.int .i64 n, .ro 2 (enc e2 aa) false, .ro 2 (enc e2 oo) false, .ro 2 (enc e2 (er rr (j, k))) false], .bool (rr.any fun x => decide (x = (j, k)))]) := by
  have h1 := F_tidx (fun x => decide (x = (j, k))) 124 [.int .i64 j, .int .i64 k] rr (by omega) (fun x _ => F_eq1 x (j, k))
  cases h : rr.any (fun x => decide (x = (j, k))) with
  | false =>
    rw [fidx_none h] at h1
    have he : er rr (j, k) = rr := by unfold er; rw [h]; rfl
    rw [he]
    refine FV_W T102 (r := ?re1) ?he1 ?ve1
    case he1 =>
      simp only [c102, c102_b, Lift.start]
      repeat (first | refine W_assoc ?_ | (show W _ (.seq (.region _ _) _) _ _; refine W_reg (by simp; with_reducible rfl) ?_) | (show R _ _ _ (_ :: _) _ _ _ _; refine R_op (by simp (maxSteps := 2000000) [h1]; with_reducible rfl) ?_) | (show R _ _ _ [] _ _ _ _; refine R_nil (by simp; with_reducible rfl) ?_) | (show W _ (.seq (.cond _ _ _) _) _ _; first | refine W_ct (by first | (simp [h1]; done) | fail) ?_ | refine W_cf (by first | (simp [h1]; done) | fail) ?_) | refine W_skip ?_ | refine W_bl (c := .seq _ _) ?_ | refine W_bl (c := .region _ _) ?_ | refine W_bl (c := .cond _ _ _) ?_ | refine W_bl (c := .block _ _) ?_ | refine W_rt ?_ | refine W_ex ?_ | refine W_end ?_ | refine W_tail (a := .region _ _) ?_ | refine W_tail (a := .cond _ _ _) ?_ | refine W_tail (a := .ret) ?_ | refine W_tail (a := .exit _) ?_ | refine W_tail (a := .block _ _) ?_ | refine QB_normal ?_ | refine QB_exit ?_ | refine QB_ret ?_ | refine QB_out (by decide) ?_ | refine QL_next ?_ | refine QL_exit ?_ | refine QL_ret ?_ | refine QL_out (by decide) ?_ | (show Fin _ _ .ret _; exact Fin_ret (by first | (simp [c102]; done) | (simp [c102]; with_reducible rfl))) | (show Fin _ _ .normal _; exact Fin_end (by first | (simp [c102]; done) | (simp [c102]; with_reducible rfl))))
    case ve1 => simp [h1]
  | true =>
    obtain ⟨i, hi, hil, _, _⟩ := fidx_some h
    rw [hi] at h1
    have he := er_hit rr (j, k) i hi h
    have h2 := F_tclo rr hr
    have hw := wrapS i _ hil (by omega)
    have hnn : ¬ (i : Int) < 0 := by omega
    rw [he]
    by_cases hp : 0 < i
    · by_cases hq : i + 1 = rr.length
      · have h3 := F_tdelL rr hr i hq hp
        have hd : rr.drop (i + 1) = [] := List.drop_of_length_le (by omega)
        have ht : (rr.take i ++ [(0, 0)]).take i = rr.take i := by rw [List.take_append_of_le_length (by simp; omega)]; exact List.take_of_length_le (by simp; omega)
        rw [hd, List.append_nil]
        have hle : i ≤ rr.length := by omega
        refine FV_W T102 (r := ?re2) ?he2 ?ve2
        case he2 =>
          simp only [c102, c102_b, Lift.start]
          repeat (first | refine W_assoc ?_ | (show W _ (.seq (.region _ _) _) _ _; refine W_reg (by simp; with_reducible rfl) ?_) | (show R _ _ _ (_ :: _) _ _ _ _; refine R_op (by simp (maxSteps := 2000000) [h1, h2, h3, hw, hnn, ht, hle]; with_reducible rfl) ?_) | (show R _ _ _ [] _ _ _ _; refine R_nil (by simp; with_reducible rfl) ?_) | (show W _ (.seq (.cond _ _ _) _) _ _; first | refine W_ct (by first | (simp [h1, h2, h3, hw, hnn, ht, hle]; done) | fail) ?_ | refine W_cf (by first | (simp [h1, h2, h3, hw, hnn, ht, hle]; done) | fail) ?_) | refine W_skip ?_ | refine W_bl (c := .seq _ _) ?_ | refine W_bl (c := .region _ _) ?_ | refine W_bl (c := .cond _ _ _) ?_ | refine W_bl (c := .block _ _) ?_ | refine W_rt ?_ | refine W_ex ?_ | refine W_end ?_ | refine W_tail (a := .region _ _) ?_ | refine W_tail (a := .cond _ _ _) ?_ | refine W_tail (a := .ret) ?_ | refine W_tail (a := .exit _) ?_ | refine W_tail (a := .block _ _) ?_ | refine QB_normal ?_ | refine QB_exit ?_ | refine QB_ret ?_ | refine QB_out (by decide) ?_ | refine QL_next ?_ | refine QL_exit ?_ | refine QL_ret ?_ | refine QL_out (by decide) ?_ | (show Fin _ _ .ret _; exact Fin_ret (by first | (simp [c102]; done) | (simp [c102]; with_reducible rfl))) | (show Fin _ _ .normal _; exact Fin_end (by first | (simp [c102]; done) | (simp [c102]; with_reducible rfl))))
        case ve2 => simp [h1, h2, h3, hw, hnn, ht, hle]
      · have h3 := F_tdel2 rr hr i (by omega) hp
        have ht : (rr.take i ++ (rr.drop (i + 1) ++ [(0, 0)])).take (rr.length - 1) = rr.take i ++ rr.drop (i + 1) := by
          rw [← List.append_assoc, List.take_append_of_le_length (by simp; omega)]; exact List.take_of_length_le (by simp; omega)
        have hle3 : rr.length ≤ min i rr.length + (rr.length - (i + 1) + 1) + 1 := by omega
        simp at h3
        refine FV_W T102 (r := ?re3) ?he3 ?ve3
        case he3 =>
          simp only [c102, c102_b, Lift.start]
          repeat (first | refine W_assoc ?_ | (show W _ (.seq (.region _ _) _) _ _; refine W_reg (by simp; with_reducible rfl) ?_) | (show R _ _ _ (_ :: _) _ _ _ _; refine R_op (by simp (maxSteps := 2000000) [h1, h2, h3, hw, hnn, ht]; with_reducible rfl) ?_) | (show R _ _ _ [] _ _ _ _; refine R_nil (by simp; with_reducible rfl) ?_) | (show W _ (.seq (.cond _ _ _) _) _ _; first | refine W_ct (by first | (simp [h1, h2, h3, hw, hnn, ht]; done) | fail) ?_ | refine W_cf (by first | (simp [h1, h2, h3, hw, hnn, ht]; done) | fail) ?_) | refine W_skip ?_ | refine W_bl (c := .seq _ _) ?_ | refine W_bl (c := .region _ _) ?_ | refine W_bl (c := .cond _ _ _) ?_ | refine W_bl (c := .block _ _) ?_ | refine W_rt ?_ | refine W_ex ?_ | refine W_end ?_ | refine W_tail (a := .region _ _) ?_ | refine W_tail (a := .cond _ _ _) ?_ | refine W_tail (a := .ret) ?_ | refine W_tail (a := .exit _) ?_ | refine W_tail (a := .block _ _) ?_ | refine QB_normal ?_ | refine QB_exit ?_ | refine QB_ret ?_ | refine QB_out (by decide) ?_ | refine QL_next ?_ | refine QL_exit ?_ | refine QL_ret ?_ | refine QL_out (by decide) ?_ | (show Fin _ _ .ret _; exact Fin_ret (by first | (simp [c102]; done) | (simp [c102]; with_reducible rfl))) | (show Fin _ _ .normal _; exact Fin_end (by first | (simp [c102]; done) | (simp [c102]; with_reducible rfl))))
        case ve3 => simp [h1, h2, h3, hw, hnn, ht, hle3]
    · obtain rfl : i = 0 := by omega
      have hw1 : IntKind.i64.wrap 1 = 1 := by decide
      have hw0 : IntKind.i64.wrap (0 + 1) = 1 := by decide
      cases rr with
      | nil => simp at hil
      | cons x t =>
        cases t with
        | nil =>
          have h3 := F_tdel1 x
          refine FV_W T102 (r := ?re4) ?he4 ?ve4
          case he4 =>
            simp only [c102, c102_b, Lift.start]
            repeat (first | refine W_assoc ?_ | (show W _ (.seq (.region _ _) _) _ _; refine W_reg (by simp; with_reducible rfl) ?_) | (show R _ _ _ (_ :: _) _ _ _ _; refine R_op (by simp (maxSteps := 2000000) [h1, h2, h3, hw0, hw1]; with_reducible rfl) ?_) | (show R _ _ _ [] _ _ _ _; refine R_nil (by simp; with_reducible rfl) ?_) | (show W _ (.seq (.cond _ _ _) _) _ _; first | refine W_ct (by first | (simp [h1, h2, h3, hw0, hw1]; done) | fail) ?_ | refine W_cf (by first | (simp [h1, h2, h3, hw0, hw1]; done) | fail) ?_) | refine W_skip ?_ | refine W_bl (c := .seq _ _) ?_ | refine W_bl (c := .region _ _) ?_ | refine W_bl (c := .cond _ _ _) ?_ | refine W_bl (c := .block _ _) ?_ | refine W_rt ?_ | refine W_ex ?_ | refine W_end ?_ | refine W_tail (a := .region _ _) ?_ | refine W_tail (a := .cond _ _ _) ?_ | refine W_tail (a := .ret) ?_ | refine W_tail (a := .exit _) ?_ | refine W_tail (a := .block _ _) ?_ | refine QB_normal ?_ | refine QB_exit ?_ | refine QB_ret ?_ | refine QB_out (by decide) ?_ | refine QL_next ?_ | refine QL_exit ?_ | refine QL_ret ?_ | refine QL_out (by decide) ?_ | (show Fin _ _ .ret _; exact Fin_ret (by first | (simp [c102]; done) | (simp [c102]; with_reducible rfl))) | (show Fin _ _ .normal _; exact Fin_end (by first | (simp [c102]; done) | (simp [c102]; with_reducible rfl))))
          case ve4 => simp [h1, h2, h3, hw0, hw1]
        | cons y t =>
          have h3 := F_tdel0 x (y :: t) (by simp) (by simp at hr ⊢; omega)
          simp at h3
          refine FV_W T102 (r := ?re5) ?he5 ?ve5
          case he5 =>
            simp only [c102, c102_b, Lift.start]
            repeat (first | refine W_assoc ?_ | (show W _ (.seq (.region _ _) _) _ _; refine W_reg (by simp; with_reducible rfl) ?_) | (show R _ _ _ (_ :: _) _ _ _ _; refine R_op (by simp (maxSteps := 2000000) [h1, h2, h3, hw0, hw1]; with_reducible rfl) ?_) | (show R _ _ _ [] _ _ _ _; refine R_nil (by simp; with_reducible rfl) ?_) | (show W _ (.seq (.cond _ _ _) _) _ _; first | refine W_ct (by first | (simp [h1, h2, h3, hw0, hw1]; done) | fail) ?_ | refine W_cf (by first | (simp [h1, h2, h3, hw0, hw1]; done) | fail) ?_) | refine W_skip ?_ | refine W_bl (c := .seq _ _) ?_ | refine W_bl (c := .region _ _) ?_ | refine W_bl (c := .cond _ _ _) ?_ | refine W_bl (c := .block _ _) ?_ | refine W_rt ?_ | refine W_ex ?_ | refine W_end ?_ | refine W_tail (a := .region _ _) ?_ | refine W_tail (a := .cond _ _ _) ?_ | refine W_tail (a := .ret) ?_ | refine W_tail (a := .exit _) ?_ | refine W_tail (a := .block _ _) ?_ | refine QB_normal ?_ | refine QB_exit ?_ | refine QB_ret ?_ | refine QB_out (by decide) ?_ | refine QL_next ?_ | refine QL_exit ?_ | refine QL_ret ?_ | refine QL_out (by decide) ?_ | (show Fin _ _ .ret _; exact Fin_ret (by first | (simp [c102]; done) | (simp [c102]; with_reducible rfl))) | (show Fin _ _ .normal _; exact Fin_end (by first | (simp [c102]; done) | (simp [c102]; with_reducible rfl))))
          case ve5 => simp [h1, h2, h3, hw0, hw1]

end Go.Proofs.Ytnobgooojbppbaa.Slots
