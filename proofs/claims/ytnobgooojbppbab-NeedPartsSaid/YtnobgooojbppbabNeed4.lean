/- What tasks need: the checks, and the law of the checks. -/
import Derived.Test.YtnobgooojbppbabNeed3
set_option linter.all false
set_option linter.unusedSimpArgs false
set_option maxRecDepth 100000
set_option maxHeartbeats 4000000
namespace Go.Proofs.Ytnobgooojbppbab.Need
open Go Go.RowKit Go.Proofs.Ytnobgooojbppbab.Lift Go.Proofs.Ytnobgooojbppbab.TND Go.Proofs.Ytnobgooojbppbab.Base Go.Proofs.Ytnobgooojbppbab.NeedPure

/-- Is a list a need? 0; or why not. -/
def chk (l : List P2) : Int := if 31 < l.length then 4 else match made l with
  | none => 1
  | some t => if 8 < deep t then 4 else 0

theorem deep_le : ∀ t : Tr, deep t ≤ (post t).length := by
  intro t
  induction t with
  | leaf n => simp [deep, post]
  | no t ih => simp [deep, post]; omega
  | two b l r ihl ihr => simp [deep, post]; omega

theorem made_deep {l : List P2} {t : Tr} (h : made l = some t) : deep t ≤ l.length := by
  rw [(made_post h).1]; exact deep_le t

theorem V_check (l : List P2) (hl : l.length ≤ 100) : FV (F T) 16 [.ro 2 (enc e2 l) false] = some (.int .i64 (chk l)) := by
  have h : F T 16 [.ro 2 (enc e2 l) false] [] = some (.int .i64 (chk l), []) := by
    refine F_W T16 ?_
    simp only [c16, c16_b, Lift.start]
    by_cases h1 : 31 < l.length
    · have h2 : (31 : Int) < l.length := by omega
      have hc : chk l = 4 := by unfold chk; rw [if_pos h1]
      rw [hc]
      repeat (first | refine W_assoc ?_ | (show W _ (.seq (.region _ _) _) _ _; refine W_reg (by simp; with_reducible rfl) ?_) | (show R _ _ _ (_ :: _) _ _ _ _; refine R_op (by simp (maxSteps := 2000000) [h1, h2]; with_reducible rfl) ?_) | (show R _ _ _ [] _ _ _ _; refine R_nil (by simp; with_reducible rfl) ?_) | (show W _ (.seq (.cond _ _ _) _) _ _; first | refine W_ct (by first | (simp [h1, h2]; done) | fail) ?_ | refine W_cf (by first | (simp [h1, h2]; done) | fail) ?_) | refine W_skip ?_ | refine W_bl (c := .seq _ _) ?_ | refine W_bl (c := .region _ _) ?_ | refine W_bl (c := .cond _ _ _) ?_ | refine W_bl (c := .block _ _) ?_ | refine W_rt ?_ | refine W_ex ?_ | refine W_end ?_ | refine W_tail (a := .region _ _) ?_ | refine W_tail (a := .cond _ _ _) ?_ | refine W_tail (a := .ret) ?_ | refine W_tail (a := .exit _) ?_ | refine W_tail (a := .block _ _) ?_ | refine QB_normal ?_ | refine QB_exit ?_ | refine QB_ret ?_ | refine QB_out (by decide) ?_ | refine QL_next ?_ | refine QL_exit ?_ | refine QL_ret ?_ | refine QL_out (by decide) ?_ | (show Fin _ _ .ret _; exact Fin_ret (by first | (simp [c16]; done) | (simp [c16]; with_reducible rfl))) | (show Fin _ _ .normal _; exact Fin_end (by first | (simp [c16]; done) | (simp [c16]; with_reducible rfl))))
    · have h2 : ¬ (31 : Int) < l.length := by omega
      have v1 := V_made l hl
      cases hm : made l with
      | none =>
        have hc : chk l = 1 := by unfold chk; rw [if_neg h1, hm]
        rw [hc]
        rw [hm] at v1
        simp only [treeV] at v1
        repeat (first | refine W_assoc ?_ | (show W _ (.seq (.region _ _) _) _ _; refine W_reg (by simp; with_reducible rfl) ?_) | (show R _ _ _ (_ :: _) _ _ _ _; refine R_op (by simp (maxSteps := 2000000) [h1, h2, v1]; with_reducible rfl) ?_) | (show R _ _ _ [] _ _ _ _; refine R_nil (by simp; with_reducible rfl) ?_) | (show W _ (.seq (.cond _ _ _) _) _ _; first | refine W_ct (by first | (simp [h1, h2, v1]; done) | fail) ?_ | refine W_cf (by first | (simp [h1, h2, v1]; done) | fail) ?_) | refine W_skip ?_ | refine W_bl (c := .seq _ _) ?_ | refine W_bl (c := .region _ _) ?_ | refine W_bl (c := .cond _ _ _) ?_ | refine W_bl (c := .block _ _) ?_ | refine W_rt ?_ | refine W_ex ?_ | refine W_end ?_ | refine W_tail (a := .region _ _) ?_ | refine W_tail (a := .cond _ _ _) ?_ | refine W_tail (a := .ret) ?_ | refine W_tail (a := .exit _) ?_ | refine W_tail (a := .block _ _) ?_ | refine QB_normal ?_ | refine QB_exit ?_ | refine QB_ret ?_ | refine QB_out (by decide) ?_ | refine QL_next ?_ | refine QL_exit ?_ | refine QL_ret ?_ | refine QL_out (by decide) ?_ | (show Fin _ _ .ret _; exact Fin_ret (by first | (simp [c16]; done) | (simp [c16]; with_reducible rfl))) | (show Fin _ _ .normal _; exact Fin_end (by first | (simp [c16]; done) | (simp [c16]; with_reducible rfl))))
      | some t =>
        rw [hm] at v1
        simp only [treeV] at v1
        have hd := made_deep hm
        have hf := F_deep t 199 (by omega) (by omega)
        repeat (first | refine W_assoc ?_ | (show W _ (.seq (.region _ _) _) _ _; refine W_reg (by simp; with_reducible rfl) ?_) | (show R _ _ _ (_ :: _) _ _ _ _; refine R_op (by simp (maxSteps := 2000000) [h1, h2, v1]; with_reducible rfl) ?_) | (show R _ _ _ [] _ _ _ _; refine R_nil (by simp; with_reducible rfl) ?_) | (show W _ (.seq (.cond _ _ _) _) _ _; first | refine W_ct (by first | (simp [h1, h2, v1]; done) | fail) ?_ | refine W_cf (by first | (simp [h1, h2, v1]; done) | fail) ?_) | refine W_skip ?_ | refine W_bl (c := .seq _ _) ?_ | refine W_bl (c := .region _ _) ?_ | refine W_bl (c := .cond _ _ _) ?_ | refine W_bl (c := .block _ _) ?_ | refine W_rt ?_ | refine W_ex ?_ | refine W_end ?_ | refine W_tail (a := .region _ _) ?_ | refine W_tail (a := .cond _ _ _) ?_ | refine W_tail (a := .ret) ?_ | refine W_tail (a := .exit _) ?_ | refine W_tail (a := .block _ _) ?_ | refine QB_normal ?_ | refine QB_exit ?_ | refine QB_ret ?_ | refine QB_out (by decide) ?_ | refine QL_next ?_ | refine QL_exit ?_ | refine QL_ret ?_ | refine QL_out (by decide) ?_ | (show Fin _ _ .ret _; exact Fin_ret (by first | (simp [c16]; done) | (simp [c16]; with_reducible rfl))) | (show Fin _ _ .normal _; exact Fin_end (by first | (simp [c16]; done) | (simp [c16]; with_reducible rfl))))
        refine R_op (aops_inv rfl rfl (dfn_tbl t) (flat200p 199 (by omega) t) (by simp [evs]) hf (flat_int _ _)) ?_
        simp only [put]
        by_cases h8 : 8 < deep t
        · have h9 : (8 : Int) < deep t := by omega
          have hc : chk l = 4 := by unfold chk; rw [if_neg h1, hm]; simp [h8]
          rw [hc]
          repeat (first | refine W_assoc ?_ | (show W _ (.seq (.region _ _) _) _ _; refine W_reg (by simp; with_reducible rfl) ?_) | (show R _ _ _ (_ :: _) _ _ _ _; refine R_op (by simp (maxSteps := 2000000) [h8, h9]; with_reducible rfl) ?_) | (show R _ _ _ [] _ _ _ _; refine R_nil (by simp; with_reducible rfl) ?_) | (show W _ (.seq (.cond _ _ _) _) _ _; first | refine W_ct (by first | (simp [h8, h9]; done) | fail) ?_ | refine W_cf (by first | (simp [h8, h9]; done) | fail) ?_) | refine W_skip ?_ | refine W_bl (c := .seq _ _) ?_ | refine W_bl (c := .region _ _) ?_ | refine W_bl (c := .cond _ _ _) ?_ | refine W_bl (c := .block _ _) ?_ | refine W_rt ?_ | refine W_ex ?_ | refine W_end ?_ | refine W_tail (a := .region _ _) ?_ | refine W_tail (a := .cond _ _ _) ?_ | refine W_tail (a := .ret) ?_ | refine W_tail (a := .exit _) ?_ | refine W_tail (a := .block _ _) ?_ | refine QB_normal ?_ | refine QB_exit ?_ | refine QB_ret ?_ | refine QB_out (by decide) ?_ | refine QL_next ?_ | refine QL_exit ?_ | refine QL_ret ?_ | refine QL_out (by decide) ?_ | (show Fin _ _ .ret _; exact Fin_ret (by first | (simp [c16]; done) | (simp [c16]; with_reducible rfl))) | (show Fin _ _ .normal _; exact Fin_end (by first | (simp [c16]; done) | (simp [c16]; with_reducible rfl))))
        · have h9 : ¬ (8 : Int) < deep t := by omega
          have hc : chk l = 0 := by unfold chk; rw [if_neg h1, hm]; simp [h8]
          rw [hc]
          repeat (first | refine W_assoc ?_ | (show W _ (.seq (.region _ _) _) _ _; refine W_reg (by simp; with_reducible rfl) ?_) | (show R _ _ _ (_ :: _) _ _ _ _; refine R_op (by simp (maxSteps := 2000000) [h8, h9]; with_reducible rfl) ?_) | (show R _ _ _ [] _ _ _ _; refine R_nil (by simp; with_reducible rfl) ?_) | (show W _ (.seq (.cond _ _ _) _) _ _; first | refine W_ct (by first | (simp [h8, h9]; done) | fail) ?_ | refine W_cf (by first | (simp [h8, h9]; done) | fail) ?_) | refine W_skip ?_ | refine W_bl (c := .seq _ _) ?_ | refine W_bl (c := .region _ _) ?_ | refine W_bl (c := .cond _ _ _) ?_ | refine W_bl (c := .block _ _) ?_ | refine W_rt ?_ | refine W_ex ?_ | refine W_end ?_ | refine W_tail (a := .region _ _) ?_ | refine W_tail (a := .cond _ _ _) ?_ | refine W_tail (a := .ret) ?_ | refine W_tail (a := .exit _) ?_ | refine W_tail (a := .block _ _) ?_ | refine QB_normal ?_ | refine QB_exit ?_ | refine QB_ret ?_ | refine QB_out (by decide) ?_ | refine QL_next ?_ | refine QL_exit ?_ | refine QL_ret ?_ | refine QL_out (by decide) ?_ | (show Fin _ _ .ret _; exact Fin_ret (by first | (simp [c16]; done) | (simp [c16]; with_reducible rfl))) | (show Fin _ _ .normal _; exact Fin_end (by first | (simp [c16]; done) | (simp [c16]; with_reducible rfl))))
  simpa using FV_of h

theorem r09chk_loop (l : List P2) (hl : l.length ≤ 31) : ∀ (k i : Nat) (st : ASt), i + k = l.length → (∀ j (h : j < l.length), j < i → may l[j] = true) → canon [0, 3] st = ⟨[.ro 2 (enc e2 l) false, .top, .top, .int .i64 i, .top, .top, .top, .top, .top, .top, .top, .top, .top, .top, .top, .top, .top, .top, .top, .top, .top, .top, .top, .top, .top, .top, .top, .top, .top, .top, .top, .top, .top, .top, .top, .top], [], 0, 0⟩ →
    W T c17_k0 st (Lift.Fin c17 (.int .i64 (chk l), [])) := by
  have h31 : ¬ 31 < l.length := by omega
  intro k
  induction k with
  | zero =>
    intro i st hi hb hc
    have h1 : ¬ i < l.length := by omega
    have hall : l.all may = true := by
      rw [List.all_eq_true]
      intro x hx
      obtain ⟨j, hj, rfl⟩ := List.mem_iff_getElem.1 hx
      exact hb j hj (by omega)
    unfold c17_k0
    refine W_round hc ?_
    unfold c17_l0
    by_cases hnil : l = []
    · subst hnil
      have hc : chk [] = 1 := by decide
      rw [hc]
      repeat (first | refine W_assoc ?_ | (show W _ (.seq (.region _ _) _) _ _; refine W_reg (by simp; with_reducible rfl) ?_) | (show R _ _ _ (_ :: _) _ _ _ _; refine R_op (by simp (maxSteps := 2000000); with_reducible rfl) ?_) | (show R _ _ _ [] _ _ _ _; refine R_nil (by simp; with_reducible rfl) ?_) | (show W _ (.seq (.cond _ _ _) _) _ _; first | refine W_ct (by first | (simp; done) | fail) ?_ | refine W_cf (by first | (simp; done) | fail) ?_) | refine W_skip ?_ | refine W_bl (c := .seq _ _) ?_ | refine W_bl (c := .region _ _) ?_ | refine W_bl (c := .cond _ _ _) ?_ | refine W_bl (c := .block _ _) ?_ | refine W_rt ?_ | refine W_ex ?_ | refine W_end ?_ | refine W_tail (a := .region _ _) ?_ | refine W_tail (a := .cond _ _ _) ?_ | refine W_tail (a := .ret) ?_ | refine W_tail (a := .exit _) ?_ | refine W_tail (a := .block _ _) ?_ | refine QB_normal ?_ | refine QB_exit ?_ | refine QB_ret ?_ | refine QB_out (by decide) ?_ | refine QL_next ?_ | refine QL_exit ?_ | refine QL_ret ?_ | refine QL_out (by decide) ?_ | (show Fin _ _ .ret _; exact Fin_ret (by first | (simp [c17]; done) | (simp [c17]; with_reducible rfl))) | (show Fin _ _ .normal _; exact Fin_end (by first | (simp [c17]; done) | (simp [c17]; with_reducible rfl))))
    · have hpos : 0 < l.length := List.length_pos_iff.2 hnil
      have hne : ¬ (l.length : Int) = 0 := by omega
      have hne2 : ¬ l.length = 0 := by omega
      have w1 : IntKind.i64.wrap ((l.length : Int) - 1) = (l.length : Int) - 1 := by rw [wrap_i64 _ (by omega) (by omega)]
      have vb := V_begin l (by omega) l.length (Nat.le_refl _)
      rw [List.take_length] at vb
      cases hm : made l with
      | none =>
        have hc : chk l = 1 := by unfold chk; rw [if_neg h31, hm]
        rw [hc]
        have hb0 : ¬ begV l.length (scanB l.reverse 1 0) = 0 := by
          intro e
          have : ∃ t, made l = some t := by
            rw [made_iff]
            refine ⟨hall, ?_⟩
            cases hq : scanB l.reverse 1 0 with
            | none => rw [hq] at e; simp [begV] at e
            | some c =>
              rw [hq] at e
              simp only [begV] at e
              congr 1; omega
          obtain ⟨t, ht⟩ := this
          rw [hm] at ht; cases ht
        generalize begV l.length (scanB l.reverse 1 0) = bv at vb hb0
        repeat (first | refine W_assoc ?_ | (show W _ (.seq (.region _ _) _) _ _; refine W_reg (by simp; with_reducible rfl) ?_) | (show R _ _ _ (_ :: _) _ _ _ _; refine R_op (by simp (maxSteps := 2000000) [h1, hne, hne2, w1, vb, hb0]; with_reducible rfl) ?_) | (show R _ _ _ [] _ _ _ _; refine R_nil (by simp; with_reducible rfl) ?_) | (show W _ (.seq (.cond _ _ _) _) _ _; first | refine W_ct (by first | (simp [h1, hne, hne2, w1, vb, hb0]; done) | fail) ?_ | refine W_cf (by first | (simp [h1, hne, hne2, w1, vb, hb0]; done) | fail) ?_) | refine W_skip ?_ | refine W_bl (c := .seq _ _) ?_ | refine W_bl (c := .region _ _) ?_ | refine W_bl (c := .cond _ _ _) ?_ | refine W_bl (c := .block _ _) ?_ | refine W_rt ?_ | refine W_ex ?_ | refine W_end ?_ | refine W_tail (a := .region _ _) ?_ | refine W_tail (a := .cond _ _ _) ?_ | refine W_tail (a := .ret) ?_ | refine W_tail (a := .exit _) ?_ | refine W_tail (a := .block _ _) ?_ | refine QB_normal ?_ | refine QB_exit ?_ | refine QB_ret ?_ | refine QB_out (by decide) ?_ | refine QL_next ?_ | refine QL_exit ?_ | refine QL_ret ?_ | refine QL_out (by decide) ?_ | (show Fin _ _ .ret _; exact Fin_ret (by first | (simp [c17]; done) | (simp [c17]; with_reducible rfl))) | (show Fin _ _ .normal _; exact Fin_end (by first | (simp [c17]; done) | (simp [c17]; with_reducible rfl))))
      | some t =>
        have hb0 : begV l.length (scanB l.reverse 1 0) = 0 := by
          have := (made_iff l).1 ⟨t, hm⟩
          rw [this.2]
          simp [begV]
        rw [hb0] at vb
        obtain ⟨hp, hg⟩ := made_post hm
        have hf := F_depth0 l (by omega) t [] l.length (Nat.le_refl _) hg (by rw [List.take_length]; simpa using hp)
        have hfv := FV_of hf
        simp only [clo] at hfv
        by_cases h8 : 8 < deep t
        · have h9 : (8 : Int) < deep t := by omega
          have hc : chk l = 4 := by unfold chk; rw [if_neg h31, hm]; simp [h8]
          rw [hc]
          repeat (first | refine W_assoc ?_ | (show W _ (.seq (.region _ _) _) _ _; refine W_reg (by simp; with_reducible rfl) ?_) | (show R _ _ _ (_ :: _) _ _ _ _; refine R_op (by simp (maxSteps := 2000000) [h1, hne, hne2, w1, vb, hf, hfv, h8, h9]; with_reducible rfl) ?_) | (show R _ _ _ [] _ _ _ _; refine R_nil (by simp; with_reducible rfl) ?_) | (show W _ (.seq (.cond _ _ _) _) _ _; first | refine W_ct (by first | (simp [h1, hne, hne2, w1, vb, hf, hfv, h8, h9]; done) | fail) ?_ | refine W_cf (by first | (simp [h1, hne, hne2, w1, vb, hf, hfv, h8, h9]; done) | fail) ?_) | refine W_skip ?_ | refine W_bl (c := .seq _ _) ?_ | refine W_bl (c := .region _ _) ?_ | refine W_bl (c := .cond _ _ _) ?_ | refine W_bl (c := .block _ _) ?_ | refine W_rt ?_ | refine W_ex ?_ | refine W_end ?_ | refine W_tail (a := .region _ _) ?_ | refine W_tail (a := .cond _ _ _) ?_ | refine W_tail (a := .ret) ?_ | refine W_tail (a := .exit _) ?_ | refine W_tail (a := .block _ _) ?_ | refine QB_normal ?_ | refine QB_exit ?_ | refine QB_ret ?_ | refine QB_out (by decide) ?_ | refine QL_next ?_ | refine QL_exit ?_ | refine QL_ret ?_ | refine QL_out (by decide) ?_ | (show Fin _ _ .ret _; exact Fin_ret (by first | (simp [c17]; done) | (simp [c17]; with_reducible rfl))) | (show Fin _ _ .normal _; exact Fin_end (by first | (simp [c17]; done) | (simp [c17]; with_reducible rfl))))
        · have h9 : ¬ (8 : Int) < deep t := by omega
          have hc : chk l = 0 := by unfold chk; rw [if_neg h31, hm]; simp [h8]
          rw [hc]
          repeat (first | refine W_assoc ?_ | (show W _ (.seq (.region _ _) _) _ _; refine W_reg (by simp; with_reducible rfl) ?_) | (show R _ _ _ (_ :: _) _ _ _ _; refine R_op (by simp (maxSteps := 2000000) [h1, hne, hne2, w1, vb, hf, hfv, h8, h9]; with_reducible rfl) ?_) | (show R _ _ _ [] _ _ _ _; refine R_nil (by simp; with_reducible rfl) ?_) | (show W _ (.seq (.cond _ _ _) _) _ _; first | refine W_ct (by first | (simp [h1, hne, hne2, w1, vb, hf, hfv, h8, h9]; done) | fail) ?_ | refine W_cf (by first | (simp [h1, hne, hne2, w1, vb, hf, hfv, h8, h9]; done) | fail) ?_) | refine W_skip ?_ | refine W_bl (c := .seq _ _) ?_ | refine W_bl (c := .region _ _) ?_ | refine W_bl (c := .cond _ _ _) ?_ | refine W_bl (c := .block _ _) ?_ | refine W_rt ?_ | refine W_ex ?_ | refine W_end ?_ | refine W_tail (a := .region _ _) ?_ | refine W_tail (a := .cond _ _ _) ?_ | refine W_tail (a := .ret) ?_ | refine W_tail (a := .exit _) ?_ | refine W_tail (a := .block _ _) ?_ | refine QB_normal ?_ | refine QB_exit ?_ | refine QB_ret ?_ | refine QB_out (by decide) ?_ | refine QL_next ?_ | refine QL_exit ?_ | refine QL_ret ?_ | refine QL_out (by decide) ?_ | (show Fin _ _ .ret _; exact Fin_ret (by first | (simp [c17]; done) | (simp [c17]; with_reducible rfl))) | (show Fin _ _ .normal _; exact Fin_end (by first | (simp [c17]; done) | (simp [c17]; with_reducible rfl))))
  | succ k ih =>
    intro i st hi hb hc
    have hlt : i < l.length := by omega
    have hw := wrapS i _ hlt (by omega)
    have v1 := V_R09may l[i]
    unfold c17_k0
    refine W_round hc ?_
    unfold c17_l0
    cases hmay : may l[i] with
    | false =>
      rw [hmay] at v1
      have hc : chk l = 1 := by
        unfold chk
        rw [if_neg h31]
        cases hm : made l with
        | none => rfl
        | some t =>
          have := ((made_iff l).1 ⟨t, hm⟩).1
          rw [List.all_eq_true] at this
          rw [this _ (List.getElem_mem hlt)] at hmay
          cases hmay
      rw [hc]
      repeat (first | refine W_assoc ?_ | (show W _ (.seq (.region _ _) _) _ _; refine W_reg (by simp; with_reducible rfl) ?_) | (show R _ _ _ (_ :: _) _ _ _ _; refine R_op (by simp (maxSteps := 2000000) [hlt, hw, v1]; with_reducible rfl) ?_) | (show R _ _ _ [] _ _ _ _; refine R_nil (by simp; with_reducible rfl) ?_) | (show W _ (.seq (.cond _ _ _) _) _ _; first | refine W_ct (by first | (simp [hlt, hw, v1]; done) | fail) ?_ | refine W_cf (by first | (simp [hlt, hw, v1]; done) | fail) ?_) | refine W_skip ?_ | refine W_bl (c := .seq _ _) ?_ | refine W_bl (c := .region _ _) ?_ | refine W_bl (c := .cond _ _ _) ?_ | refine W_bl (c := .block _ _) ?_ | refine W_rt ?_ | refine W_ex ?_ | refine W_end ?_ | refine W_tail (a := .region _ _) ?_ | refine W_tail (a := .cond _ _ _) ?_ | refine W_tail (a := .ret) ?_ | refine W_tail (a := .exit _) ?_ | refine W_tail (a := .block _ _) ?_ | refine QB_normal ?_ | refine QB_exit ?_ | refine QB_ret ?_ | refine QB_out (by decide) ?_ | refine QL_next ?_ | refine QL_exit ?_ | refine QL_ret ?_ | refine QL_out (by decide) ?_ | (show Fin _ _ .ret _; exact Fin_ret (by first | (simp [c17]; done) | (simp [c17]; with_reducible rfl))) | (show Fin _ _ .normal _; exact Fin_end (by first | (simp [c17]; done) | (simp [c17]; with_reducible rfl))))
    | true =>
      rw [hmay] at v1
      repeat (first | refine W_assoc ?_ | (show W _ (.seq (.region _ _) _) _ _; refine W_reg (by simp; with_reducible rfl) ?_) | (show R _ _ _ (_ :: _) _ _ _ _; refine R_op (by simp (maxSteps := 2000000) [hlt, hw, v1]; with_reducible rfl) ?_) | (show R _ _ _ [] _ _ _ _; refine R_nil (by simp; with_reducible rfl) ?_) | (show W _ (.seq (.cond _ _ _) _) _ _; first | refine W_ct (by first | (simp [hlt, hw, v1]; done) | fail) ?_ | refine W_cf (by first | (simp [hlt, hw, v1]; done) | fail) ?_) | refine W_skip ?_ | refine W_bl (c := .seq _ _) ?_ | refine W_bl (c := .region _ _) ?_ | refine W_bl (c := .cond _ _ _) ?_ | refine W_bl (c := .block _ _) ?_ | refine W_rt ?_ | refine W_ex ?_ | refine W_end ?_ | refine W_tail (a := .region _ _) ?_ | refine W_tail (a := .cond _ _ _) ?_ | refine W_tail (a := .ret) ?_ | refine W_tail (a := .exit _) ?_ | refine W_tail (a := .block _ _) ?_ | refine QB_normal ?_ | refine QB_exit ?_ | refine QB_ret ?_ | refine QB_out (by decide) ?_ | refine QL_next ?_ | refine QL_exit ?_ | refine QL_ret ?_ | refine QL_out (by decide) ?_ | (show Fin _ _ .ret _; exact Fin_ret (by first | (simp; done) | (simp; with_reducible rfl))) | (show Fin _ _ .normal _; exact Fin_end (by first | (simp; done) | (simp; with_reducible rfl))))
      refine ih (i + 1) _ ?_ ?_ ?_
      · omega
      · intro j hj h
        rcases Nat.lt_or_ge j i with h1 | h1
        · exact hb j hj h1
        · obtain rfl : j = i := by omega
          exact hmay
      · simp

theorem V_R09check (l : List P2) (hl : l.length ≤ 100) : FV (F T) 17 [.ro 2 (enc e2 l) false] = some (.int .i64 (chk l)) := by
  have h : F T 17 [.ro 2 (enc e2 l) false] [] = some (.int .i64 (chk l), []) := by
    refine F_W T17 ?_
    simp only [c17, c17_b, Lift.start]
    by_cases h1 : 31 < l.length
    · have h2 : (31 : Int) < l.length := by omega
      have hc : chk l = 4 := by unfold chk; rw [if_pos h1]
      rw [hc]
      repeat (first | refine W_assoc ?_ | (show W _ (.seq (.region _ _) _) _ _; refine W_reg (by simp; with_reducible rfl) ?_) | (show R _ _ _ (_ :: _) _ _ _ _; refine R_op (by simp (maxSteps := 2000000) [h1, h2]; with_reducible rfl) ?_) | (show R _ _ _ [] _ _ _ _; refine R_nil (by simp; with_reducible rfl) ?_) | (show W _ (.seq (.cond _ _ _) _) _ _; first | refine W_ct (by first | (simp [h1, h2]; done) | fail) ?_ | refine W_cf (by first | (simp [h1, h2]; done) | fail) ?_) | refine W_skip ?_ | refine W_bl (c := .seq _ _) ?_ | refine W_bl (c := .region _ _) ?_ | refine W_bl (c := .cond _ _ _) ?_ | refine W_bl (c := .block _ _) ?_ | refine W_rt ?_ | refine W_ex ?_ | refine W_end ?_ | refine W_tail (a := .region _ _) ?_ | refine W_tail (a := .cond _ _ _) ?_ | refine W_tail (a := .ret) ?_ | refine W_tail (a := .exit _) ?_ | refine W_tail (a := .block _ _) ?_ | refine QB_normal ?_ | refine QB_exit ?_ | refine QB_ret ?_ | refine QB_out (by decide) ?_ | refine QL_next ?_ | refine QL_exit ?_ | refine QL_ret ?_ | refine QL_out (by decide) ?_ | (show Fin _ _ .ret _; exact Fin_ret (by first | (simp [c17]; done) | (simp [c17]; with_reducible rfl))) | (show Fin _ _ .normal _; exact Fin_end (by first | (simp [c17]; done) | (simp [c17]; with_reducible rfl))))
    · have h2 : ¬ (31 : Int) < l.length := by omega
      repeat (first | refine W_assoc ?_ | (show W _ (.seq (.region _ _) _) _ _; refine W_reg (by simp; with_reducible rfl) ?_) | (show R _ _ _ (_ :: _) _ _ _ _; refine R_op (by simp (maxSteps := 2000000) [h1, h2]; with_reducible rfl) ?_) | (show R _ _ _ [] _ _ _ _; refine R_nil (by simp; with_reducible rfl) ?_) | (show W _ (.seq (.cond _ _ _) _) _ _; first | refine W_ct (by first | (simp [h1, h2]; done) | fail) ?_ | refine W_cf (by first | (simp [h1, h2]; done) | fail) ?_) | refine W_skip ?_ | refine W_bl (c := .seq _ _) ?_ | refine W_bl (c := .region _ _) ?_ | refine W_bl (c := .cond _ _ _) ?_ | refine W_bl (c := .block _ _) ?_ | refine W_rt ?_ | refine W_ex ?_ | refine W_end ?_ | refine W_tail (a := .region _ _) ?_ | refine W_tail (a := .cond _ _ _) ?_ | refine W_tail (a := .ret) ?_ | refine W_tail (a := .exit _) ?_ | refine W_tail (a := .block _ _) ?_ | refine QB_normal ?_ | refine QB_exit ?_ | refine QB_ret ?_ | refine QB_out (by decide) ?_ | refine QL_next ?_ | refine QL_exit ?_ | refine QL_ret ?_ | refine QL_out (by decide) ?_ | (show Fin _ _ .ret _; exact Fin_ret (by first | (simp; done) | (simp; with_reducible rfl))) | (show Fin _ _ .normal _; exact Fin_end (by first | (simp; done) | (simp; with_reducible rfl))))
      refine r09chk_loop l (by omega) l.length 0 _ ?_ ?_ ?_
      · simp
      · intro j hj h; omega
      · simp
  simpa using FV_of h

theorem R09_Same_loop (l m : List P2) (hl : l.length ≤ 140737488355328) (hlm : l.length = m.length) :
    ∀ (k i : Nat) (st : ASt), i + k = l.length → canon [0, 1, 5] st = ⟨[.ro 2 (enc e2 l) false, .ro 2 (enc e2 m) false, .top, .top, .top, .int .i64 i, .top, .top, .top, .top, .top, .top, .top, .top, .top, .top, .top, .top, .top, .top, .top, .top, .top, .top, .top, .top], [], 0, 0⟩ → W T c13_k0 st (Lift.Fin c13 (.bool (decide (l.drop i = m.drop i)), [])) := by
  intro k
  induction k with
  | zero =>
    intro i st hi hc
    have h1 : ¬ i < l.length := by omega
    have e1 : l.drop i = [] := List.drop_of_length_le (by omega)
    have e2 : m.drop i = [] := List.drop_of_length_le (by omega)
    unfold c13_k0
    refine W_exit (by rw [hc]; simp (maxSteps := 2000000) [c13_l0, h1]; with_reducible rfl) ?_
    exact W_fin (ex := .ret) (by simp (maxSteps := 2000000); with_reducible rfl) (by simp) (by first | (simp [c13, e1, e2]; done) | (simp [c13, e1, e2]; with_reducible rfl))
  | succ k ih =>
    intro i st hi hc
    have hlt : i < l.length := by omega
    have hlt2 : i < m.length := by omega
    have hw := wrapS i _ hlt hl
    have d1 := List.drop_eq_getElem_cons hlt
    have d2 := List.drop_eq_getElem_cons hlt2
    unfold c13_k0
    by_cases he : l[i] = m[i]
    · rw [d1, d2, he]
      simp only [List.cons.injEq, true_and]
      refine W_next (by rw [hc]; simp (maxSteps := 2000000) [c13_l0, hlt, hlt2, hw, he, eqCs, hlm]; with_reducible rfl) ?_
      exact ih (i + 1) _ (by omega) (by simp [hlm])
    · have hd : decide (l.drop i = m.drop i) = false := by
        rw [decide_eq_false_iff_not, d1, d2]; intro e; injection e with e _; exact he e
      rw [hd]
      have hne := e2_ne he
      exact W_ret (by rw [hc]; simp (maxSteps := 2000000) [c13_l0, hlt, hlt2, hne, eqCs, hlm]; with_reducible rfl) (Fin_ret (by simp [c13]))

theorem F_R09_Same (l m : List P2) (hl : l.length ≤ 1000000) (hm : m.length ≤ 1000000) : F T 13 [.ro 2 (enc e2 l) false, .ro 2 (enc e2 m) false] [] = some (.bool (decide (l = m)), []) := by
  refine F_W T13 ?_
  by_cases h : l.length = m.length
  · simp only [c13, c13_b, Lift.start]
    repeat (first | refine W_assoc ?_ | refine W_go (a := .region _ _) (by simp (maxSteps := 2000000) [h]; with_reducible rfl) ?_ | refine W_go (a := .cond _ _ _) (by simp (maxSteps := 2000000) [h]; with_reducible rfl) ?_ | refine W_go (a := .block _ (.seq _ _)) (by simp (maxSteps := 2000000) [h]; with_reducible rfl) ?_)
    have := R09_Same_loop l m (by omega) h l.length 0
    simp only [List.drop_zero] at this
    exact this _ (by simp) (by simp [h])
  · have h1 : decide (l = m) = false := by
      rw [decide_eq_false_iff_not]; intro e; exact h (by rw [e])
    have h2 : ¬ (l.length : Int) = (m.length : Int) := by omega
    rw [h1]
    exact W_fin (ex := .ret) (by simp (maxSteps := 2000000) [c13, c13_b, h2, h]; with_reducible rfl) (by simp) (by first | (simp [c13]; done) | (simp [c13]; with_reducible rfl))

theorem need_Same_loop (l m : List P2) (hl : l.length ≤ 140737488355328) (hlm : l.length = m.length) :
    ∀ (k i : Nat) (st : ASt), i + k = l.length → canon [0, 1, 12, 13] st = ⟨[.ro 2 (enc e2 l) false, .ro 2 (enc e2 m) false, .top, .top, .top, .top, .top, .top, .top, .top, .top, .top, .int .i64 l.length, .int .i64 i, .top, .top, .top, .top, .top, .top, .top, .top, .top, .top, .top, .top], [], 0, 0⟩ → W T c18_k0 st (Lift.Fin c18 (.bool (decide (l.drop i = m.drop i)), [])) := by
  intro k
  induction k with
  | zero =>
    intro i st hi hc
    have h1 : ¬ i < l.length := by omega
    have e1 : l.drop i = [] := List.drop_of_length_le (by omega)
    have e2 : m.drop i = [] := List.drop_of_length_le (by omega)
    unfold c18_k0
    refine W_exit (by rw [hc]; simp (maxSteps := 2000000) [c18_l0, h1]; with_reducible rfl) ?_
    exact W_fin (ex := .ret) (by simp (maxSteps := 2000000); with_reducible rfl) (by simp) (by first | (simp [c18, e1, e2]; done) | (simp [c18, e1, e2]; with_reducible rfl))
  | succ k ih =>
    intro i st hi hc
    have hlt : i < l.length := by omega
    have hlt2 : i < m.length := by omega
    have hw := wrapS i _ hlt hl
    have d1 := List.drop_eq_getElem_cons hlt
    have d2 := List.drop_eq_getElem_cons hlt2
    unfold c18_k0
    by_cases he : l[i] = m[i]
    · rw [d1, d2, he]
      simp only [List.cons.injEq, true_and]
      refine W_next (by rw [hc]; simp (maxSteps := 2000000) [c18_l0, hlt, hlt2, hw, he, eqCs, hlm]; with_reducible rfl) ?_
      exact ih (i + 1) _ (by omega) (by simp [hlm])
    · have hd : decide (l.drop i = m.drop i) = false := by
        rw [decide_eq_false_iff_not, d1, d2]; intro e; injection e with e _; exact he e
      rw [hd]
      have hne := e2_ne he
      exact W_ret (by rw [hc]; simp (maxSteps := 2000000) [c18_l0, hlt, hlt2, hne, eqCs, hlm]; with_reducible rfl) (Fin_ret (by simp [c18]))

theorem F_need_Same (l m : List P2) (hl : l.length ≤ 1000000) (hm : m.length ≤ 1000000) : F T 18 [.ro 2 (enc e2 l) false, .ro 2 (enc e2 m) false] [] = some (.bool (decide (l = m)), []) := by
  refine F_W T18 ?_
  by_cases h : l.length = m.length
  · simp only [c18, c18_b, Lift.start]
    repeat (first | refine W_assoc ?_ | refine W_go (a := .region _ _) (by simp (maxSteps := 2000000) [h]; with_reducible rfl) ?_ | refine W_go (a := .cond _ _ _) (by simp (maxSteps := 2000000) [h]; with_reducible rfl) ?_ | refine W_go (a := .block _ (.seq _ _)) (by simp (maxSteps := 2000000) [h]; with_reducible rfl) ?_)
    have := need_Same_loop l m (by omega) h l.length 0
    simp only [List.drop_zero] at this
    exact this _ (by simp) (by simp [h])
  · have h1 : decide (l = m) = false := by
      rw [decide_eq_false_iff_not]; intro e; exact h (by rw [e])
    have h2 : ¬ (l.length : Int) = (m.length : Int) := by omega
    rw [h1]
    exact W_fin (ex := .ret) (by simp (maxSteps := 2000000) [c18, c18_b, h2, h]; with_reducible rfl) (by simp) (by first | (simp [c18]; done) | (simp [c18]; with_reducible rfl))


theorem V_works09 : FV (F T) 12 [] = some (.bool true) := by
  have hw : F T 12 [] [] = some (.bool true, []) := F_iff.2 ⟨200, by kernel_rfl⟩
  have h := FV_of hw
  simpa using h

theorem checks (l m : List P2) : F T 4 [.ro 2 (enc e2 l) false, .ro 2 (enc e2 m) false] [] = some (.bool true, []) := by
  refine F_W T4 ?_
  simp only [c4, c4_b, Lift.start]
  by_cases h1 : 100 < l.length
  · have h1' : (100 : Int) < l.length := by omega
    repeat (first | refine W_assoc ?_ | (show W _ (.seq (.region _ _) _) _ _; refine W_reg (by simp; with_reducible rfl) ?_) | (show R _ _ _ (_ :: _) _ _ _ _; refine R_op (by simp (maxSteps := 2000000) [h1, h1', V_works09]; with_reducible rfl) ?_) | (show R _ _ _ [] _ _ _ _; refine R_nil (by simp; with_reducible rfl) ?_) | (show W _ (.seq (.cond _ _ _) _) _ _; first | refine W_ct (by first | (simp [h1, h1', V_works09]; done) | fail) ?_ | refine W_cf (by first | (simp [h1, h1', V_works09]; done) | fail) ?_) | refine W_skip ?_ | refine W_bl (c := .seq _ _) ?_ | refine W_bl (c := .region _ _) ?_ | refine W_bl (c := .cond _ _ _) ?_ | refine W_bl (c := .block _ _) ?_ | refine W_rt ?_ | refine W_ex ?_ | refine W_end ?_ | refine W_tail (a := .region _ _) ?_ | refine W_tail (a := .cond _ _ _) ?_ | refine W_tail (a := .ret) ?_ | refine W_tail (a := .exit _) ?_ | refine W_tail (a := .block _ _) ?_ | refine QB_normal ?_ | refine QB_exit ?_ | refine QB_ret ?_ | refine QB_out (by decide) ?_ | refine QL_next ?_ | refine QL_exit ?_ | refine QL_ret ?_ | refine QL_out (by decide) ?_ | (show Fin _ _ .ret _; exact Fin_ret (by first | (simp [c4]; done) | (simp [c4]; with_reducible rfl))) | (show Fin _ _ .normal _; exact Fin_end (by first | (simp [c4]; done) | (simp [c4]; with_reducible rfl))))
  by_cases h2 : 100 < m.length
  · have h1' : ¬ (100 : Int) < l.length := by omega
    have h2' : (100 : Int) < m.length := by omega
    repeat (first | refine W_assoc ?_ | (show W _ (.seq (.region _ _) _) _ _; refine W_reg (by simp; with_reducible rfl) ?_) | (show R _ _ _ (_ :: _) _ _ _ _; refine R_op (by simp (maxSteps := 2000000) [h1, h1', h2, h2', V_works09]; with_reducible rfl) ?_) | (show R _ _ _ [] _ _ _ _; refine R_nil (by simp; with_reducible rfl) ?_) | (show W _ (.seq (.cond _ _ _) _) _ _; first | refine W_ct (by first | (simp [h1, h1', h2, h2', V_works09]; done) | fail) ?_ | refine W_cf (by first | (simp [h1, h1', h2, h2', V_works09]; done) | fail) ?_) | refine W_skip ?_ | refine W_bl (c := .seq _ _) ?_ | refine W_bl (c := .region _ _) ?_ | refine W_bl (c := .cond _ _ _) ?_ | refine W_bl (c := .block _ _) ?_ | refine W_rt ?_ | refine W_ex ?_ | refine W_end ?_ | refine W_tail (a := .region _ _) ?_ | refine W_tail (a := .cond _ _ _) ?_ | refine W_tail (a := .ret) ?_ | refine W_tail (a := .exit _) ?_ | refine W_tail (a := .block _ _) ?_ | refine QB_normal ?_ | refine QB_exit ?_ | refine QB_ret ?_ | refine QB_out (by decide) ?_ | refine QL_next ?_ | refine QL_exit ?_ | refine QL_ret ?_ | refine QL_out (by decide) ?_ | (show Fin _ _ .ret _; exact Fin_ret (by first | (simp [c4]; done) | (simp [c4]; with_reducible rfl))) | (show Fin _ _ .normal _; exact Fin_end (by first | (simp [c4]; done) | (simp [c4]; with_reducible rfl))))
  have h1' : ¬ (100 : Int) < l.length := by omega
  have h2' : ¬ (100 : Int) < m.length := by omega
  have v1 := V_check l (by omega)
  have v2 := V_R09check l (by omega)
  have v3 := FV_of (F_need_Same l m (by omega) (by omega))
  have v4 := FV_of (F_R09_Same l m (by omega) (by omega))
  have v5 := FV_of (F_need_Same l l (by omega) (by omega))
  simp at v3 v4 v5
  have hck : IntKind.i64.wrap (chk l) = chk l := by
    have : chk l = 0 ∨ chk l = 1 ∨ chk l = 4 := by
      unfold chk
      split
      · simp
      · split
        · simp
        · split <;> simp
    rcases this with h | h | h <;> rw [h] <;> decide
  generalize chk l = ck at v1 v2 hck
  repeat (first | refine W_assoc ?_ | (show W _ (.seq (.region _ _) _) _ _; refine W_reg (by simp; with_reducible rfl) ?_) | (show R _ _ _ (_ :: _) _ _ _ _; refine R_op (by simp (maxSteps := 2000000) [h1, h1', h2, h2', v1, v2, v3, v4, v5, hck, V_works09]; with_reducible rfl) ?_) | (show R _ _ _ [] _ _ _ _; refine R_nil (by simp; with_reducible rfl) ?_) | (show W _ (.seq (.cond _ _ _) _) _ _; first | refine W_ct (by first | (simp [h1, h1', h2, h2', v1, v2, v3, v4, v5, hck, V_works09]; done) | fail) ?_ | refine W_cf (by first | (simp [h1, h1', h2, h2', v1, v2, v3, v4, v5, hck, V_works09]; done) | fail) ?_) | refine W_skip ?_ | refine W_bl (c := .seq _ _) ?_ | refine W_bl (c := .region _ _) ?_ | refine W_bl (c := .cond _ _ _) ?_ | refine W_bl (c := .block _ _) ?_ | refine W_rt ?_ | refine W_ex ?_ | refine W_end ?_ | refine W_tail (a := .region _ _) ?_ | refine W_tail (a := .cond _ _ _) ?_ | refine W_tail (a := .ret) ?_ | refine W_tail (a := .exit _) ?_ | refine W_tail (a := .block _ _) ?_ | refine QB_normal ?_ | refine QB_exit ?_ | refine QB_ret ?_ | refine QB_out (by decide) ?_ | refine QL_next ?_ | refine QL_exit ?_ | refine QL_ret ?_ | refine QL_out (by decide) ?_ | (show Fin _ _ .ret _; exact Fin_ret (by first | (simp [c4]; done) | (simp [c4]; with_reducible rfl))) | (show Fin _ _ .normal _; exact Fin_end (by first | (simp [c4]; done) | (simp [c4]; with_reducible rfl))))

end Go.Proofs.Ytnobgooojbppbab.Need
