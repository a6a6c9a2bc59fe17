/- A worker's slots: the document's end of a task, and the law. -/
import Derived.Test.YtnobgooojbppbaaSlots2
set_option linter.all false
set_option linter.unusedSimpArgs false
set_option maxRecDepth 100000
set_option maxHeartbeats 4000000
namespace Go.Proofs.Ytnobgooojbppbaa.Slots
open Go Go.RowKit Go.Proofs.Ytnobgooojbppbaa.Lift Go.Proofs.Ytnobgooojbppbaa.TS Go.Proofs.Ytnobgooojbppbaa.Base Go.Proofs.Ytnobgooojbppbaa.Queue

section
variable (n : Int) (aa oo rr : List P2) (t : P2)

theorem r30end_miss (hr : rr.length ≤ 1000000) (hm : ∀ i (h : i < rr.length), ¬ rr[i] = t) :
    ∀ (k i : Nat) (st : ASt), i + k = rr.length → canon [2, 3, 4, 6] st = ⟨[.top, .top, .ref 0 0 0, .ref 1 0 0, .ref 2 0 0, .top, .int .i64 i, .top, .top, .top, .top, .top, .top, .top, .top, .top, .top, .top, .top, .top, .top, .top, .top, .top, .top, .top, .top, .top, .top, .top, .top, .top, .top, .top, .top, .top], [(0, ⟨128, 4, true, [[.int .i64 n, .ro 2 (enc e2 aa) false, .ro 2 (enc e2 oo) false, .ro 2 (enc e2 rr) false]], 0⟩), (1, ⟨134, 2, true, [[.int .i64 t.1, .int .i64 t.2]], 0⟩), (2, ⟨128, 4, true, [[.int .i64 0, .ro 2 [] true, .ro 2 [] true, .ro 2 [] true]], 0⟩)], 3, 0⟩ →
      W T c103_k0 st (Lift.Fin c103 (.tup [.agg [.int .i64 n, .ro 2 (enc e2 aa) false, .ro 2 (enc e2 oo) false, .ro 2 (enc e2 rr) false], .bool false], [])) := by
  intro k
  induction k with
  | zero =>
    intro i st hi hc
    have h1 : ¬ i < rr.length := by omega
    unfold c103_k0
    refine W_round hc ?_
    unfold c103_l0
    repeat (first | refine W_assoc ?_ | (show W _ (.seq (.region _ _) _) _ _; refine W_reg (by simp; with_reducible rfl) ?_) | (show R _ _ _ (_ :: _) _ _ _ _; refine R_op (by simp (maxSteps := 2000000) [h1]; with_reducible rfl) ?_) | (show R _ _ _ [] _ _ _ _; refine R_nil (by simp; with_reducible rfl) ?_) | (show W _ (.seq (.cond _ _ _) _) _ _; first | refine W_ct (by first | (simp [h1]; done) | fail) ?_ | refine W_cf (by first | (simp [h1]; done) | fail) ?_) | refine W_skip ?_ | refine W_bl (c := .seq _ _) ?_ | refine W_bl (c := .region _ _) ?_ | refine W_bl (c := .cond _ _ _) ?_ | refine W_bl (c := .block _ _) ?_ | refine W_rt ?_ | refine W_ex ?_ | refine W_end ?_ | refine W_tail (a := .region _ _) ?_ | refine W_tail (a := .cond _ _ _) ?_ | refine W_tail (a := .ret) ?_ | refine W_tail (a := .exit _) ?_ | refine W_tail (a := .block _ _) ?_ | refine QB_normal ?_ | refine QB_exit ?_ | refine QB_ret ?_ | refine QB_out (by decide) ?_ | refine QL_next ?_ | refine QL_exit ?_ | refine QL_ret ?_ | refine QL_out (by decide) ?_ | (show Fin _ _ .ret _; exact Fin_ret (by first | (simp [c103]; done) | (simp [c103]; with_reducible rfl))) | (show Fin _ _ .normal _; exact Fin_end (by first | (simp [c103]; done) | (simp [c103]; with_reducible rfl))))
  | succ k ih =>
    intro i st hi hc
    have hlt : i < rr.length := by omega
    have hw := wrapS i _ hlt (by omega)
    have hne := e2_ne (hm i hlt)
    unfold c103_k0
    refine W_round hc ?_
    unfold c103_l0
    repeat (first | refine W_assoc ?_ | (show W _ (.seq (.region _ _) _) _ _; refine W_reg (by simp; with_reducible rfl) ?_) | (show R _ _ _ (_ :: _) _ _ _ _; refine R_op (by simp (maxSteps := 2000000) [hlt, hw, eqCs, hne]; with_reducible rfl) ?_) | (show R _ _ _ [] _ _ _ _; refine R_nil (by simp; with_reducible rfl) ?_) | (show W _ (.seq (.cond _ _ _) _) _ _; first | refine W_ct (by first | (simp [hlt, hw, eqCs, hne]; done) | fail) ?_ | refine W_cf (by first | (simp [hlt, hw, eqCs, hne]; done) | fail) ?_) | refine W_skip ?_ | refine W_bl (c := .seq _ _) ?_ | refine W_bl (c := .region _ _) ?_ | refine W_bl (c := .cond _ _ _) ?_ | refine W_bl (c := .block _ _) ?_ | refine W_rt ?_ | refine W_ex ?_ | refine W_end ?_ | refine W_tail (a := .region _ _) ?_ | refine W_tail (a := .cond _ _ _) ?_ | refine W_tail (a := .ret) ?_ | refine W_tail (a := .exit _) ?_ | refine W_tail (a := .block _ _) ?_ | refine QB_normal ?_ | refine QB_exit ?_ | refine QB_ret ?_ | refine QB_out (by decide) ?_ | refine QL_next ?_ | refine QL_exit ?_ | refine QL_ret ?_ | refine QL_out (by decide) ?_ | (show Fin _ _ .ret _; exact Fin_ret (by first | (simp; done) | (simp; with_reducible rfl))) | (show Fin _ _ .normal _; exact Fin_end (by first | (simp; done) | (simp; with_reducible rfl))))
    exact ih (i + 1) _ (by omega) (by simp; try rfl)

theorem r30end_hit (hr : rr.length ≤ 1000000) (i0 : Nat) (hi0 : i0 < rr.length) (heq : rr[i0] = t) (hm : ∀ i (h : i < i0), ¬ rr[i]'(by omega) = t) :
    ∀ (k i : Nat) (st : ASt), i + k = i0 → canon [2, 3, 4, 6] st = ⟨[.top, .top, .ref 0 0 0, .ref 1 0 0, .ref 2 0 0, .top, .int .i64 i, .top, .top, .top, .top, .top, .top, .top, .top, .top, .top, .top, .top, .top, .top, .top, .top, .top, .top, .top, .top, .top, .top, .top, .top, .top, .top, .top, .top, .top], [(0, ⟨128, 4, true, [[.int .i64 n, .ro 2 (enc e2 aa) false, .ro 2 (enc e2 oo) false, .ro 2 (enc e2 rr) false]], 0⟩), (1, ⟨134, 2, true, [[.int .i64 t.1, .int .i64 t.2]], 0⟩), (2, ⟨128, 4, true, [[.int .i64 0, .ro 2 [] true, .ro 2 [] true, .ro 2 [] true]], 0⟩)], 3, 0⟩ →
      W T c103_k0 st (Lift.Fin c103 (.tup [.agg [.int .i64 n, .ro 2 (enc e2 aa) false, .ro 2 (enc e2 oo) false, .own 0 0 (i0 + (rr.length - (i0 + 1)))], .bool true], [⟨134, 2, false, enc e2 (rr.take i0 ++ rr.drop (i0 + 1)), 0⟩])) := by
  intro k
  induction k with
  | zero =>
    intro i st hi hc
    obtain rfl : i = i0 := by omega
    have hw := wrapS i _ hi0 (by omega)
    have h0 : ((i : Int) + 1).toNat = i + 1 := by omega
    have h1 : (i : Int) ≤ rr.length := by omega
    have h2 : (i : Int) + 1 ≤ rr.length := by omega
    have h3 : i ≤ rr.length := by omega
    have h4 : i + 1 ≤ rr.length := by omega
    have h5 : i * 16 ≤ 140737488355328 := by omega
    have h6 : i ≤ 140737488355328 := by omega
    have h7 : (i + (rr.length - (i + 1))) * 16 ≤ 140737488355328 := by omega
    have h8 : i + (rr.length - (i + 1)) ≤ 140737488355328 := by omega
    have h9 : min i rr.length = i := by omega
    have ha : (0 : Int) ≤ (i : Int) + 1 := by omega
    unfold c103_k0
    refine W_round hc ?_
    unfold c103_l0
    by_cases hq : i + 1 = rr.length
    · have hb : i + (rr.length - (i + 1)) ≤ i := by omega
      have hd : rr.length ≤ i + 1 := by omega
      have hz : rr.length - (i + 1) = 0 := by omega
      have x1 : rr.drop (i + 1) = [] := List.drop_of_length_le (by omega)
      have x2 : (rr.take i).drop (i + (rr.length - (i + 1))) = [] := List.drop_of_length_le (by simp; omega)
      have x3 : (rr.take i).take i = rr.take i := List.take_of_length_le (by simp; omega)
      repeat (first | refine W_assoc ?_ | (show W _ (.seq (.region _ _) _) _ _; refine W_reg (by simp; with_reducible rfl) ?_) | (show R _ _ _ (_ :: _) _ _ _ _; refine R_op (by simp (maxSteps := 2000000) [hi0, hw, eqCs, heq, h0, h1, h2, h3, h4, h5, h6, h7, h8, h9, ha, hb, hd, x1, x2, x3]; with_reducible rfl) ?_) | (show R _ _ _ [] _ _ _ _; refine R_nil (by simp; with_reducible rfl) ?_) | (show W _ (.seq (.cond _ _ _) _) _ _; first | refine W_ct (by first | (simp [hi0, hw, eqCs, heq, h0, h1, h2, h3, h4, h5, h6, h7, h8, h9, ha, hb, hd, x1, x2, x3]; done) | fail) ?_ | refine W_cf (by first | (simp [hi0, hw, eqCs, heq, h0, h1, h2, h3, h4, h5, h6, h7, h8, h9, ha, hb, hd, x1, x2, x3]; done) | fail) ?_) | refine W_skip ?_ | refine W_bl (c := .seq _ _) ?_ | refine W_bl (c := .region _ _) ?_ | refine W_bl (c := .cond _ _ _) ?_ | refine W_bl (c := .block _ _) ?_ | refine W_rt ?_ | refine W_ex ?_ | refine W_end ?_ | refine W_tail (a := .region _ _) ?_ | refine W_tail (a := .cond _ _ _) ?_ | refine W_tail (a := .ret) ?_ | refine W_tail (a := .exit _) ?_ | refine W_tail (a := .block _ _) ?_ | refine QB_normal ?_ | refine QB_exit ?_ | refine QB_ret ?_ | refine QB_out (by decide) ?_ | refine QL_next ?_ | refine QL_exit ?_ | refine QL_ret ?_ | refine QL_out (by decide) ?_ | (show Fin _ _ .ret _; exact Fin_ret (by first | (simp [c103, x1, x2, x3, hz]; done) | (simp [c103, x1, x2, x3, hz]; with_reducible rfl))) | (show Fin _ _ .normal _; exact Fin_end (by first | (simp [c103, x1, x2, x3, hz]; done) | (simp [c103, x1, x2, x3, hz]; with_reducible rfl))))
    · have hb : ¬ i + (rr.length - (i + 1)) ≤ i := by omega
      have x3 : (rr.take i).take i = rr.take i := List.take_of_length_le (by simp; omega)
      repeat (first | refine W_assoc ?_ | (show W _ (.seq (.region _ _) _) _ _; refine W_reg (by simp; with_reducible rfl) ?_) | (show R _ _ _ (_ :: _) _ _ _ _; refine R_op (by simp (maxSteps := 2000000) [hi0, hw, eqCs, heq, h0, h1, h2, h3, h4, h5, h6, h7, h8, h9, ha, hb, x3]; with_reducible rfl) ?_) | (show R _ _ _ [] _ _ _ _; refine R_nil (by simp; with_reducible rfl) ?_) | (show W _ (.seq (.cond _ _ _) _) _ _; first | refine W_ct (by first | (simp [hi0, hw, eqCs, heq, h0, h1, h2, h3, h4, h5, h6, h7, h8, h9, ha, hb, x3]; done) | fail) ?_ | refine W_cf (by first | (simp [hi0, hw, eqCs, heq, h0, h1, h2, h3, h4, h5, h6, h7, h8, h9, ha, hb, x3]; done) | fail) ?_) | refine W_skip ?_ | refine W_bl (c := .seq _ _) ?_ | refine W_bl (c := .region _ _) ?_ | refine W_bl (c := .cond _ _ _) ?_ | refine W_bl (c := .block _ _) ?_ | refine W_rt ?_ | refine W_ex ?_ | refine W_end ?_ | refine W_tail (a := .region _ _) ?_ | refine W_tail (a := .cond _ _ _) ?_ | refine W_tail (a := .ret) ?_ | refine W_tail (a := .exit _) ?_ | refine W_tail (a := .block _ _) ?_ | refine QB_normal ?_ | refine QB_exit ?_ | refine QB_ret ?_ | refine QB_out (by decide) ?_ | refine QL_next ?_ | refine QL_exit ?_ | refine QL_ret ?_ | refine QL_out (by decide) ?_ | (show Fin _ _ .ret _; exact Fin_ret (by first | (simp [c103, x3]; done) | (simp [c103, x3]; with_reducible rfl))) | (show Fin _ _ .normal _; exact Fin_end (by first | (simp [c103, x3]; done) | (simp [c103, x3]; with_reducible rfl))))
  | succ k ih =>
    intro i st hi hc
    have hlt : i < rr.length := by omega
    have hw := wrapS i _ hlt (by omega)
    have hne := e2_ne (hm i (by omega))
    unfold c103_k0
    refine W_round hc ?_
    unfold c103_l0
    repeat (first | refine W_assoc ?_ | (show W _ (.seq (.region _ _) _) _ _; refine W_reg (by simp; with_reducible rfl) ?_) | (show R _ _ _ (_ :: _) _ _ _ _; refine R_op (by simp (maxSteps := 2000000) [hlt, hw, eqCs, hne]; with_reducible rfl) ?_) | (show R _ _ _ [] _ _ _ _; refine R_nil (by simp; with_reducible rfl) ?_) | (show W _ (.seq (.cond _ _ _) _) _ _; first | refine W_ct (by first | (simp [hlt, hw, eqCs, hne]; done) | fail) ?_ | refine W_cf (by first | (simp [hlt, hw, eqCs, hne]; done) | fail) ?_) | refine W_skip ?_ | refine W_bl (c := .seq _ _) ?_ | refine W_bl (c := .region _ _) ?_ | refine W_bl (c := .cond _ _ _) ?_ | refine W_bl (c := .block _ _) ?_ | refine W_rt ?_ | refine W_ex ?_ | refine W_end ?_ | refine W_tail (a := .region _ _) ?_ | refine W_tail (a := .cond _ _ _) ?_ | refine W_tail (a := .ret) ?_ | refine W_tail (a := .exit _) ?_ | refine W_tail (a := .block _ _) ?_ | refine QB_normal ?_ | refine QB_exit ?_ | refine QB_ret ?_ | refine QB_out (by decide) ?_ | refine QL_next ?_ | refine QL_exit ?_ | refine QL_ret ?_ | refine QL_out (by decide) ?_ | (show Fin _ _ .ret _; exact Fin_ret (by first | (simp; done) | (simp; with_reducible rfl))) | (show Fin _ _ .normal _; exact Fin_end (by first | (simp; done) | (simp; with_reducible rfl))))
    exact ih (i + 1) _ (by omega) (by simp; try rfl)
end

theorem V_R30end (n : Int) (aa oo rr : List P2) (hr : rr.length ≤ 1000000) (j k : Int) :
    FV (F T) 103 [.agg [.int .i64 n, .ro 2 (enc e2 aa) false, .ro 2 (enc e2 oo) false, .ro 2 (enc e2 rr) false], .agg [.int .i64 j, .int .i64 k]] =
      some (.tup [.agg [.int .i64 n, .ro 2 (enc e2 aa) false, .ro 2 (enc e2 oo) false, .ro 2 (enc e2 (er rr (j, k))) false], .bool (rr.any fun x => decide (x = (j, k)))]) := by
  cases h : rr.any (fun x => decide (x = (j, k))) with
  | false =>
    have he : er rr (j, k) = rr := by unfold er; rw [h]; rfl
    rw [he]
    have hf : F T 103 [.agg [.int .i64 n, .ro 2 (enc e2 aa) false, .ro 2 (enc e2 oo) false, .ro 2 (enc e2 rr) false], .agg [.int .i64 j, .int .i64 k]] [] = some (.tup [.agg [.int .i64 n, .ro 2 (enc e2 aa) false, .ro 2 (enc e2 oo) false, .ro 2 (enc e2 rr) false], .bool false], []) := by
      refine F_W T103 ?_
      simp only [c103, c103_b, Lift.start]
      repeat (first | refine W_assoc ?_ | (show W _ (.seq (.region _ _) _) _ _; refine W_reg (by simp; with_reducible rfl) ?_) | (show R _ _ _ (_ :: _) _ _ _ _; refine R_op (by simp (maxSteps := 2000000); with_reducible rfl) ?_) | (show R _ _ _ [] _ _ _ _; refine R_nil (by simp; with_reducible rfl) ?_) | (show W _ (.seq (.cond _ _ _) _) _ _; first | refine W_ct (by first | (simp; done) | fail) ?_ | refine W_cf (by first | (simp; done) | fail) ?_) | refine W_skip ?_ | refine W_bl (c := .seq _ _) ?_ | refine W_bl (c := .region _ _) ?_ | refine W_bl (c := .cond _ _ _) ?_ | refine W_bl (c := .block _ _) ?_ | refine W_rt ?_ | refine W_ex ?_ | refine W_end ?_ | refine W_tail (a := .region _ _) ?_ | refine W_tail (a := .cond _ _ _) ?_ | refine W_tail (a := .ret) ?_ | refine W_tail (a := .exit _) ?_ | refine W_tail (a := .block _ _) ?_ | refine QB_normal ?_ | refine QB_exit ?_ | refine QB_ret ?_ | refine QB_out (by decide) ?_ | refine QL_next ?_ | refine QL_exit ?_ | refine QL_ret ?_ | refine QL_out (by decide) ?_ | (show Fin _ _ .ret _; exact Fin_ret (by first | (simp; done) | (simp; with_reducible rfl))) | (show Fin _ _ .normal _; exact Fin_end (by first | (simp; done) | (simp; with_reducible rfl))))
      refine r30end_miss n aa oo rr (j, k) hr (fun i hi e => ?_) rr.length 0 _ (by simp) (by simp; try rfl)
      rw [List.any_eq_false] at h
      exact h _ (List.getElem_mem hi) (by simpa using e)
    simpa using FV_of hf
  | true =>
    obtain ⟨i, hi, hil, hpi, hbef⟩ := fidx_some h
    have he := er_hit rr (j, k) i hi h
    rw [he]
    have hf : F T 103 [.agg [.int .i64 n, .ro 2 (enc e2 aa) false, .ro 2 (enc e2 oo) false, .ro 2 (enc e2 rr) false], .agg [.int .i64 j, .int .i64 k]] [] = some (.tup [.agg [.int .i64 n, .ro 2 (enc e2 aa) false, .ro 2 (enc e2 oo) false, .own 0 0 (i + (rr.length - (i + 1)))], .bool true], [⟨134, 2, false, enc e2 (rr.take i ++ rr.drop (i + 1)), 0⟩]) := by
      refine F_W T103 ?_
      simp only [c103, c103_b, Lift.start]
      repeat (first | refine W_assoc ?_ | (show W _ (.seq (.region _ _) _) _ _; refine W_reg (by simp; with_reducible rfl) ?_) | (show R _ _ _ (_ :: _) _ _ _ _; refine R_op (by simp (maxSteps := 2000000); with_reducible rfl) ?_) | (show R _ _ _ [] _ _ _ _; refine R_nil (by simp; with_reducible rfl) ?_) | (show W _ (.seq (.cond _ _ _) _) _ _; first | refine W_ct (by first | (simp; done) | fail) ?_ | refine W_cf (by first | (simp; done) | fail) ?_) | refine W_skip ?_ | refine W_bl (c := .seq _ _) ?_ | refine W_bl (c := .region _ _) ?_ | refine W_bl (c := .cond _ _ _) ?_ | refine W_bl (c := .block _ _) ?_ | refine W_rt ?_ | refine W_ex ?_ | refine W_end ?_ | refine W_tail (a := .region _ _) ?_ | refine W_tail (a := .cond _ _ _) ?_ | refine W_tail (a := .ret) ?_ | refine W_tail (a := .exit _) ?_ | refine W_tail (a := .block _ _) ?_ | refine QB_normal ?_ | refine QB_exit ?_ | refine QB_ret ?_ | refine QB_out (by decide) ?_ | refine QL_next ?_ | refine QL_exit ?_ | refine QL_ret ?_ | refine QL_out (by decide) ?_ | (show Fin _ _ .ret _; exact Fin_ret (by first | (simp; done) | (simp; with_reducible rfl))) | (show Fin _ _ .normal _; exact Fin_end (by first | (simp; done) | (simp; with_reducible rfl))))
      exact r30end_hit n aa oo rr (j, k) hr i hil (by simpa using hpi) (fun i' hi' => by have := hbef i' hi'; simpa using this) i 0 _ (by simp) (by simp; try rfl)
    have ht : (rr.take i ++ rr.drop (i + 1)).take (i + (rr.length - (i + 1))) = rr.take i ++ rr.drop (i + 1) := List.take_of_length_le (by simp; omega)
    have hle : i + (rr.length - (i + 1)) ≤ min i rr.length + (rr.length - (i + 1)) := by omega
    have := FV_of hf
    simpa [ht, hle] using this

end Go.Proofs.Ytnobgooojbppbaa.Slots
