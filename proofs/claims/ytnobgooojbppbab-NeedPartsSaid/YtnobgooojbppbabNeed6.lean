/- What tasks need: what trees say and ask for, by the document. -/
import Derived.Test.YtnobgooojbppbabNeed5
set_option linter.all false
set_option linter.unusedSimpArgs false
set_option maxRecDepth 100000
set_option maxHeartbeats 4000000
namespace Go.Proofs.Ytnobgooojbppbab.Need
open Go Go.RowKit Go.Proofs.Ytnobgooojbppbab.Lift Go.Proofs.Ytnobgooojbppbab.TND Go.Proofs.Ytnobgooojbppbab.Base Go.Proofs.Ytnobgooojbppbab.NeedPure Go.Proofs.Ytnobgooojbppbab.FlockIn Go.Proofs.Ytnobgooojbppbab.Flock

theorem leaf_op {n : P2} (h : may n = true) (h2 : parts n.1 = 0) : n.1 = 1 ∨ n.1 = 2 := by
  have := may_op h
  rcases parts_cases n.1 with ⟨h3, h4⟩ | ⟨h3, h4⟩ | ⟨h3, h4, h5, h6⟩ <;> omega

theorem has_zero (x : Nat) : says x (.leaf (2, 0)) = has x 0 := by simp [says]

theorem F_says0 (l : List P2) (hl : l.length ≤ 100) (x : Nat) (hx : x < 18446744073709551616) : ∀ (t : Tr) (pre : List P2) (e : Nat), e ≤ l.length → good t = true → l.take e = pre ++ post t → F T 69 [.ro 2 (enc e2 l) false, .int .i64 ((e : Int) - 1), .int .u64 x] [] = some (.bool (says x t), [])
  | .leaf n, pre, e, he, hg, h => by
    obtain ⟨hlt, h1, h2, h3⟩ := last_of (q := pre) (x := n) h he
    simp [good] at hg
    have hop := leaf_op hg.1 hg.2
    have v1 := V_R05has x hx n.2
    have z1 : ((e : Int) - 1) = ((e - 1 : Nat) : Int) := by omega
    rw [z1]
    generalize e - 1 = p at *
    refine F_W T69 ?_
    simp only [c69, c69_b, Lift.start, says]
    by_cases h5 : n.1 = 1
    · repeat (first | refine W_assoc ?_ | (show W _ (.seq (.region _ _) _) _ _; refine W_reg (by simp; with_reducible rfl) ?_) | (show R _ _ _ (_ :: _) _ _ _ _; refine R_op (by simp (maxSteps := 2000000) [hlt, h1, h5]; with_reducible rfl) ?_) | (show R _ _ _ [] _ _ _ _; refine R_nil (by simp; with_reducible rfl) ?_) | (show W _ (.seq (.cond _ _ _) _) _ _; first | refine W_ct (by first | (simp [hlt, h1, h5]; done) | fail) ?_ | refine W_cf (by first | (simp [hlt, h1, h5]; done) | fail) ?_) | refine W_skip ?_ | refine W_bl (c := .seq _ _) ?_ | refine W_bl (c := .region _ _) ?_ | refine W_bl (c := .cond _ _ _) ?_ | refine W_bl (c := .block _ _) ?_ | refine W_rt ?_ | refine W_ex ?_ | refine W_end ?_ | refine W_tail (a := .region _ _) ?_ | refine W_tail (a := .cond _ _ _) ?_ | refine W_tail (a := .ret) ?_ | refine W_tail (a := .exit _) ?_ | refine W_tail (a := .block _ _) ?_ | refine QB_normal ?_ | refine QB_exit ?_ | refine QB_ret ?_ | refine QB_out (by decide) ?_ | refine QL_next ?_ | refine QL_exit ?_ | refine QL_ret ?_ | refine QL_out (by decide) ?_ | (show Fin _ _ .ret _; exact Fin_ret (by first | (simp [c69, h5]; done) | (simp [c69, h5]; with_reducible rfl))) | (show Fin _ _ .normal _; exact Fin_end (by first | (simp [c69, h5]; done) | (simp [c69, h5]; with_reducible rfl))))
    · have h6 : n.1 = 2 := by omega
      repeat (first | refine W_assoc ?_ | (show W _ (.seq (.region _ _) _) _ _; refine W_reg (by simp; with_reducible rfl) ?_) | (show R _ _ _ (_ :: _) _ _ _ _; refine R_op (by simp (maxSteps := 2000000) [hlt, h1, h5, h6, v1]; with_reducible rfl) ?_) | (show R _ _ _ [] _ _ _ _; refine R_nil (by simp; with_reducible rfl) ?_) | (show W _ (.seq (.cond _ _ _) _) _ _; first | refine W_ct (by first | (simp [hlt, h1, h5, h6, v1]; done) | fail) ?_ | refine W_cf (by first | (simp [hlt, h1, h5, h6, v1]; done) | fail) ?_) | refine W_skip ?_ | refine W_bl (c := .seq _ _) ?_ | refine W_bl (c := .region _ _) ?_ | refine W_bl (c := .cond _ _ _) ?_ | refine W_bl (c := .block _ _) ?_ | refine W_rt ?_ | refine W_ex ?_ | refine W_end ?_ | refine W_tail (a := .region _ _) ?_ | refine W_tail (a := .cond _ _ _) ?_ | refine W_tail (a := .ret) ?_ | refine W_tail (a := .exit _) ?_ | refine W_tail (a := .block _ _) ?_ | refine QB_normal ?_ | refine QB_exit ?_ | refine QB_ret ?_ | refine QB_out (by decide) ?_ | refine QL_next ?_ | refine QL_exit ?_ | refine QL_ret ?_ | refine QL_out (by decide) ?_ | (show Fin _ _ .ret _; exact Fin_ret (by first | (simp [c69, h5, h6]; done) | (simp [c69, h5, h6]; with_reducible rfl))) | (show Fin _ _ .normal _; exact Fin_end (by first | (simp [c69, h5, h6]; done) | (simp [c69, h5, h6]; with_reducible rfl))))
  | .no t, pre, e, he, hg, h => by
    rw [post, ← List.append_assoc] at h
    obtain ⟨hlt, h1, h2, h3⟩ := last_of h he
    simp [good] at hg
    have ih := F_says0 l hl x hx t pre (e - 1) (by omega) hg h2
    have ihv := FV_of ih
    simp only [clo] at ihv
    have z1 : ((e : Int) - 1) = ((e - 1 : Nat) : Int) := by omega
    rw [z1]
    have hp1 : 1 ≤ e - 1 := by have := post_pos t; have h6 := congrArg List.length h2; simp at h6; omega
    have w1 : IntKind.i64.wrap (((e - 1 : Nat) : Int) - 1) = ((e - 1 : Nat) : Int) - 1 := by rw [wrap_i64 _ (by omega) (by omega)]
    generalize e - 1 = p at *
    refine F_W T69 ?_
    simp only [c69, c69_b, Lift.start, says]
    repeat (first | refine W_assoc ?_ | (show W _ (.seq (.region _ _) _) _ _; refine W_reg (by simp; with_reducible rfl) ?_) | (show R _ _ _ (_ :: _) _ _ _ _; refine R_op (by simp (maxSteps := 2000000) [hlt, h1, ih, ihv, w1]; with_reducible rfl) ?_) | (show R _ _ _ [] _ _ _ _; refine R_nil (by simp; with_reducible rfl) ?_) | (show W _ (.seq (.cond _ _ _) _) _ _; first | refine W_ct (by first | (simp [hlt, h1, ih, ihv, w1]; done) | fail) ?_ | refine W_cf (by first | (simp [hlt, h1, ih, ihv, w1]; done) | fail) ?_) | refine W_skip ?_ | refine W_bl (c := .seq _ _) ?_ | refine W_bl (c := .region _ _) ?_ | refine W_bl (c := .cond _ _ _) ?_ | refine W_bl (c := .block _ _) ?_ | refine W_rt ?_ | refine W_ex ?_ | refine W_end ?_ | refine W_tail (a := .region _ _) ?_ | refine W_tail (a := .cond _ _ _) ?_ | refine W_tail (a := .ret) ?_ | refine W_tail (a := .exit _) ?_ | refine W_tail (a := .block _ _) ?_ | refine QB_normal ?_ | refine QB_exit ?_ | refine QB_ret ?_ | refine QB_out (by decide) ?_ | refine QL_next ?_ | refine QL_exit ?_ | refine QL_ret ?_ | refine QL_out (by decide) ?_ | (show Fin _ _ .ret _; exact Fin_ret (by first | (simp [c69]; done) | (simp [c69]; with_reducible rfl))) | (show Fin _ _ .normal _; exact Fin_end (by first | (simp [c69]; done) | (simp [c69]; with_reducible rfl))))
  | .two b lt rt, pre, e, he, hg, h => by
    rw [post, ← List.append_assoc] at h
    obtain ⟨hlt, h1, h2, h3⟩ := last_of h he
    rw [← List.append_assoc] at h2
    simp [good] at hg
    have ih1 := F_says0 l hl x hx rt (pre ++ post lt) (e - 1) (by omega) hg.2 h2
    have hb := beg_at l (e - 1) (by omega) (pre ++ post lt) rt hg.2 h2
    have vb := V_begin l (by omega) (e - 1) (by omega)
    rw [hb] at vb
    have h4 : l.take (pre ++ post lt).length = pre ++ post lt := by
      have := congrArg (List.take (pre ++ post lt).length) h2
      rw [List.take_take, List.take_left'] at this
      · rw [← this]; congr 1
        have h6 := congrArg List.length h2
        simp at h6
        simp; omega
      · rfl
    have hle : (pre ++ post lt).length ≤ l.length := by
      have h6 := congrArg List.length h2
      simp at h6; simp; omega
    have ih2 := F_says0 l hl x hx lt pre (pre ++ post lt).length hle hg.1 h4
    have z1 : ((e : Int) - 1) = ((e - 1 : Nat) : Int) := by omega
    rw [z1]
    have hp1 : 1 ≤ (pre ++ post lt).length := by have := post_pos lt; simp; omega
    have hp2 : 1 ≤ e - 1 := by have := post_pos rt; have h6 := congrArg List.length h2; simp at h6; omega
    have w1 : IntKind.i64.wrap (((e - 1 : Nat) : Int) - 1) = ((e - 1 : Nat) : Int) - 1 := by rw [wrap_i64 _ (by omega) (by omega)]
    have w3 : IntKind.i64.wrap (((pre ++ post lt).length : Int) - 1) = ((pre ++ post lt).length : Int) - 1 := by rw [wrap_i64 _ (by omega) (by omega)]
    have ihv1 := FV_of ih1
    have ihv2 := FV_of ih2
    simp only [clo] at ihv1 ihv2
    generalize (pre ++ post lt).length = q at *
    generalize e - 1 = p at *
    refine F_W T69 ?_
    simp only [c69, c69_b, Lift.start, says]
    cases b
    · simp only [Bool.false_eq_true, if_false] at h1 ⊢
      cases hs : says x lt
      · rw [hs] at ih2 ihv2
        repeat (first | refine W_assoc ?_ | (show W _ (.seq (.region _ _) _) _ _; refine W_reg (by simp; with_reducible rfl) ?_) | (show R _ _ _ (_ :: _) _ _ _ _; refine R_op (by simp (maxSteps := 2000000) [hlt, h1, ih1, ih2, ihv1, ihv2, vb, w1, w3]; with_reducible rfl) ?_) | (show R _ _ _ [] _ _ _ _; refine R_nil (by simp; with_reducible rfl) ?_) | (show W _ (.seq (.cond _ _ _) _) _ _; first | refine W_ct (by first | (simp [hlt, h1, ih1, ih2, ihv1, ihv2, vb, w1, w3]; done) | fail) ?_ | refine W_cf (by first | (simp [hlt, h1, ih1, ih2, ihv1, ihv2, vb, w1, w3]; done) | fail) ?_) | refine W_skip ?_ | refine W_bl (c := .seq _ _) ?_ | refine W_bl (c := .region _ _) ?_ | refine W_bl (c := .cond _ _ _) ?_ | refine W_bl (c := .block _ _) ?_ | refine W_rt ?_ | refine W_ex ?_ | refine W_end ?_ | refine W_tail (a := .region _ _) ?_ | refine W_tail (a := .cond _ _ _) ?_ | refine W_tail (a := .ret) ?_ | refine W_tail (a := .exit _) ?_ | refine W_tail (a := .block _ _) ?_ | refine QB_normal ?_ | refine QB_exit ?_ | refine QB_ret ?_ | refine QB_out (by decide) ?_ | refine QL_next ?_ | refine QL_exit ?_ | refine QL_ret ?_ | refine QL_out (by decide) ?_ | (show Fin _ _ .ret _; exact Fin_ret (by first | (simp [c69]; done) | (simp [c69]; with_reducible rfl))) | (show Fin _ _ .normal _; exact Fin_end (by first | (simp [c69]; done) | (simp [c69]; with_reducible rfl))))
      · rw [hs] at ih2 ihv2
        repeat (first | refine W_assoc ?_ | (show W _ (.seq (.region _ _) _) _ _; refine W_reg (by simp; with_reducible rfl) ?_) | (show R _ _ _ (_ :: _) _ _ _ _; refine R_op (by simp (maxSteps := 2000000) [hlt, h1, ih1, ih2, ihv1, ihv2, vb, w1, w3]; with_reducible rfl) ?_) | (show R _ _ _ [] _ _ _ _; refine R_nil (by simp; with_reducible rfl) ?_) | (show W _ (.seq (.cond _ _ _) _) _ _; first | refine W_ct (by first | (simp [hlt, h1, ih1, ih2, ihv1, ihv2, vb, w1, w3]; done) | fail) ?_ | refine W_cf (by first | (simp [hlt, h1, ih1, ih2, ihv1, ihv2, vb, w1, w3]; done) | fail) ?_) | refine W_skip ?_ | refine W_bl (c := .seq _ _) ?_ | refine W_bl (c := .region _ _) ?_ | refine W_bl (c := .cond _ _ _) ?_ | refine W_bl (c := .block _ _) ?_ | refine W_rt ?_ | refine W_ex ?_ | refine W_end ?_ | refine W_tail (a := .region _ _) ?_ | refine W_tail (a := .cond _ _ _) ?_ | refine W_tail (a := .ret) ?_ | refine W_tail (a := .exit _) ?_ | refine W_tail (a := .block _ _) ?_ | refine QB_normal ?_ | refine QB_exit ?_ | refine QB_ret ?_ | refine QB_out (by decide) ?_ | refine QL_next ?_ | refine QL_exit ?_ | refine QL_ret ?_ | refine QL_out (by decide) ?_ | (show Fin _ _ .ret _; exact Fin_ret (by first | (simp [c69]; done) | (simp [c69]; with_reducible rfl))) | (show Fin _ _ .normal _; exact Fin_end (by first | (simp [c69]; done) | (simp [c69]; with_reducible rfl))))
    · simp only [if_true] at h1 ⊢
      cases hs : says x lt
      · rw [hs] at ih2 ihv2
        repeat (first | refine W_assoc ?_ | (show W _ (.seq (.region _ _) _) _ _; refine W_reg (by simp; with_reducible rfl) ?_) | (show R _ _ _ (_ :: _) _ _ _ _; refine R_op (by simp (maxSteps := 2000000) [hlt, h1, ih1, ih2, ihv1, ihv2, vb, w1, w3]; with_reducible rfl) ?_) | (show R _ _ _ [] _ _ _ _; refine R_nil (by simp; with_reducible rfl) ?_) | (show W _ (.seq (.cond _ _ _) _) _ _; first | refine W_ct (by first | (simp [hlt, h1, ih1, ih2, ihv1, ihv2, vb, w1, w3]; done) | fail) ?_ | refine W_cf (by first | (simp [hlt, h1, ih1, ih2, ihv1, ihv2, vb, w1, w3]; done) | fail) ?_) | refine W_skip ?_ | refine W_bl (c := .seq _ _) ?_ | refine W_bl (c := .region _ _) ?_ | refine W_bl (c := .cond _ _ _) ?_ | refine W_bl (c := .block _ _) ?_ | refine W_rt ?_ | refine W_ex ?_ | refine W_end ?_ | refine W_tail (a := .region _ _) ?_ | refine W_tail (a := .cond _ _ _) ?_ | refine W_tail (a := .ret) ?_ | refine W_tail (a := .exit _) ?_ | refine W_tail (a := .block _ _) ?_ | refine QB_normal ?_ | refine QB_exit ?_ | refine QB_ret ?_ | refine QB_out (by decide) ?_ | refine QL_next ?_ | refine QL_exit ?_ | refine QL_ret ?_ | refine QL_out (by decide) ?_ | (show Fin _ _ .ret _; exact Fin_ret (by first | (simp [c69]; done) | (simp [c69]; with_reducible rfl))) | (show Fin _ _ .normal _; exact Fin_end (by first | (simp [c69]; done) | (simp [c69]; with_reducible rfl))))
      · rw [hs] at ih2 ihv2
        repeat (first | refine W_assoc ?_ | (show W _ (.seq (.region _ _) _) _ _; refine W_reg (by simp; with_reducible rfl) ?_) | (show R _ _ _ (_ :: _) _ _ _ _; refine R_op (by simp (maxSteps := 2000000) [hlt, h1, ih1, ih2, ihv1, ihv2, vb, w1, w3]; with_reducible rfl) ?_) | (show R _ _ _ [] _ _ _ _; refine R_nil (by simp; with_reducible rfl) ?_) | (show W _ (.seq (.cond _ _ _) _) _ _; first | refine W_ct (by first | (simp [hlt, h1, ih1, ih2, ihv1, ihv2, vb, w1, w3]; done) | fail) ?_ | refine W_cf (by first | (simp [hlt, h1, ih1, ih2, ihv1, ihv2, vb, w1, w3]; done) | fail) ?_) | refine W_skip ?_ | refine W_bl (c := .seq _ _) ?_ | refine W_bl (c := .region _ _) ?_ | refine W_bl (c := .cond _ _ _) ?_ | refine W_bl (c := .block _ _) ?_ | refine W_rt ?_ | refine W_ex ?_ | refine W_end ?_ | refine W_tail (a := .region _ _) ?_ | refine W_tail (a := .cond _ _ _) ?_ | refine W_tail (a := .ret) ?_ | refine W_tail (a := .exit _) ?_ | refine W_tail (a := .block _ _) ?_ | refine QB_normal ?_ | refine QB_exit ?_ | refine QB_ret ?_ | refine QB_out (by decide) ?_ | refine QL_next ?_ | refine QL_exit ?_ | refine QL_ret ?_ | refine QL_out (by decide) ?_ | (show Fin _ _ .ret _; exact Fin_ret (by first | (simp [c69]; done) | (simp [c69]; with_reducible rfl))) | (show Fin _ _ .normal _; exact Fin_end (by first | (simp [c69]; done) | (simp [c69]; with_reducible rfl))))

theorem V_R09says (l : List P2) (hl : l.length ≤ 100) (x : Nat) (hx : x < 18446744073709551616) : FV (F T) 25 [.ro 2 (enc e2 l) false, .int .u64 x] = some (.bool (saysL x l)) := by
  have h : F T 25 [.ro 2 (enc e2 l) false, .int .u64 x] [] = some (.bool (saysL x l), []) := by
    have v1 := V_R09check l hl
    refine F_W T25 ?_
    simp only [c25, c25_b, Lift.start]
    unfold saysL
    by_cases h0 : chk l = 0
    · obtain ⟨t, h1, h2⟩ := tree_some h0
      obtain ⟨hp, hg⟩ := made_post h1
      have ih := F_says0 l hl x hx t [] l.length (Nat.le_refl _) hg (by rw [List.take_length]; simpa using hp)
      have ihv := FV_of ih
      simp only [clo] at ihv
      have w1 : IntKind.i64.wrap ((l.length : Int) - 1) = (l.length : Int) - 1 := by rw [wrap_i64 _ (by omega) (by omega)]
      rw [h0] at v1
      rw [h2]
      repeat (first | refine W_assoc ?_ | (show W _ (.seq (.region _ _) _) _ _; refine W_reg (by simp; with_reducible rfl) ?_) | (show R _ _ _ (_ :: _) _ _ _ _; refine R_op (by simp (maxSteps := 2000000) [v1, w1, ih, ihv]; with_reducible rfl) ?_) | (show R _ _ _ [] _ _ _ _; refine R_nil (by simp; with_reducible rfl) ?_) | (show W _ (.seq (.cond _ _ _) _) _ _; first | refine W_ct (by first | (simp [v1, w1, ih, ihv]; done) | fail) ?_ | refine W_cf (by first | (simp [v1, w1, ih, ihv]; done) | fail) ?_) | refine W_skip ?_ | refine W_bl (c := .seq _ _) ?_ | refine W_bl (c := .region _ _) ?_ | refine W_bl (c := .cond _ _ _) ?_ | refine W_bl (c := .block _ _) ?_ | refine W_rt ?_ | refine W_ex ?_ | refine W_end ?_ | refine W_tail (a := .region _ _) ?_ | refine W_tail (a := .cond _ _ _) ?_ | refine W_tail (a := .ret) ?_ | refine W_tail (a := .exit _) ?_ | refine W_tail (a := .block _ _) ?_ | refine QB_normal ?_ | refine QB_exit ?_ | refine QB_ret ?_ | refine QB_out (by decide) ?_ | refine QL_next ?_ | refine QL_exit ?_ | refine QL_ret ?_ | refine QL_out (by decide) ?_ | (show Fin _ _ .ret _; exact Fin_ret (by first | (simp [c25]; done) | (simp [c25]; with_reducible rfl))) | (show Fin _ _ .normal _; exact Fin_end (by first | (simp [c25]; done) | (simp [c25]; with_reducible rfl))))
    · rw [tree_none h0]
      repeat (first | refine W_assoc ?_ | (show W _ (.seq (.region _ _) _) _ _; refine W_reg (by simp; with_reducible rfl) ?_) | (show R _ _ _ (_ :: _) _ _ _ _; refine R_op (by simp (maxSteps := 2000000) [v1, h0]; with_reducible rfl) ?_) | (show R _ _ _ [] _ _ _ _; refine R_nil (by simp; with_reducible rfl) ?_) | (show W _ (.seq (.cond _ _ _) _) _ _; first | refine W_ct (by first | (simp [v1, h0]; done) | fail) ?_ | refine W_cf (by first | (simp [v1, h0]; done) | fail) ?_) | refine W_skip ?_ | refine W_bl (c := .seq _ _) ?_ | refine W_bl (c := .region _ _) ?_ | refine W_bl (c := .cond _ _ _) ?_ | refine W_bl (c := .block _ _) ?_ | refine W_rt ?_ | refine W_ex ?_ | refine W_end ?_ | refine W_tail (a := .region _ _) ?_ | refine W_tail (a := .cond _ _ _) ?_ | refine W_tail (a := .ret) ?_ | refine W_tail (a := .exit _) ?_ | refine W_tail (a := .block _ _) ?_ | refine QB_normal ?_ | refine QB_exit ?_ | refine QB_ret ?_ | refine QB_out (by decide) ?_ | refine QL_next ?_ | refine QL_exit ?_ | refine QL_ret ?_ | refine QL_out (by decide) ?_ | (show Fin _ _ .ret _; exact Fin_ret (by first | (simp [c25]; done) | (simp [c25]; with_reducible rfl))) | (show Fin _ _ .normal _; exact Fin_end (by first | (simp [c25]; done) | (simp [c25]; with_reducible rfl))))
  simpa using FV_of h

theorem V_depth (l : List P2) (hl : l.length ≤ 100) : FV (F T) 21 [.ro 2 (enc e2 l) false] = some (.int .i64 (match tree l with | some t => deep t | none => 0 : Nat)) := by
  have h : F T 21 [.ro 2 (enc e2 l) false] [] = some (.int .i64 (match tree l with | some t => deep t | none => 0 : Nat), []) := by
    have v1 := V_check l hl
    have v2 := V_made l hl
    refine F_W T21 ?_
    simp only [c21, c21_b, Lift.start]
    by_cases h0 : chk l = 0
    · obtain ⟨t, h1, h2⟩ := tree_some h0
      have hd := made_deep h1
      have ih := F_deep t 199 (by omega) (by omega)
      rw [h0] at v1
      rw [h1] at v2
      rw [h2]
      simp only [treeV] at v2
      repeat (first | refine W_assoc ?_ | (show W _ (.seq (.region _ _) _) _ _; refine W_reg (by simp; with_reducible rfl) ?_) | (show R _ _ _ (_ :: _) _ _ _ _; refine R_op (by simp (maxSteps := 2000000) [v1, v2]; with_reducible rfl) ?_) | (show R _ _ _ [] _ _ _ _; refine R_nil (by simp; with_reducible rfl) ?_) | (show W _ (.seq (.cond _ _ _) _) _ _; first | refine W_ct (by first | (simp [v1, v2]; done) | fail) ?_ | refine W_cf (by first | (simp [v1, v2]; done) | fail) ?_) | refine W_skip ?_ | refine W_bl (c := .seq _ _) ?_ | refine W_bl (c := .region _ _) ?_ | refine W_bl (c := .cond _ _ _) ?_ | refine W_bl (c := .block _ _) ?_ | refine W_rt ?_ | refine W_ex ?_ | refine W_end ?_ | refine W_tail (a := .region _ _) ?_ | refine W_tail (a := .cond _ _ _) ?_ | refine W_tail (a := .ret) ?_ | refine W_tail (a := .exit _) ?_ | refine W_tail (a := .block _ _) ?_ | refine QB_normal ?_ | refine QB_exit ?_ | refine QB_ret ?_ | refine QB_out (by decide) ?_ | refine QL_next ?_ | refine QL_exit ?_ | refine QL_ret ?_ | refine QL_out (by decide) ?_ | (show Fin _ _ .ret _; exact Fin_ret (by first | (simp [c21]; done) | (simp [c21]; with_reducible rfl))) | (show Fin _ _ .normal _; exact Fin_end (by first | (simp [c21]; done) | (simp [c21]; with_reducible rfl))))
      refine R_op (aops_inv rfl rfl (dfn_tbl t) (flat200p 199 (by omega) t) (by simp [evs]) ih (flat_int _ _)) ?_
      simp only [put]
      repeat (first | refine W_assoc ?_ | (show W _ (.seq (.region _ _) _) _ _; refine W_reg (by simp; with_reducible rfl) ?_) | (show R _ _ _ (_ :: _) _ _ _ _; refine R_op (by simp (maxSteps := 2000000); with_reducible rfl) ?_) | (show R _ _ _ [] _ _ _ _; refine R_nil (by simp; with_reducible rfl) ?_) | (show W _ (.seq (.cond _ _ _) _) _ _; first | refine W_ct (by first | (simp; done) | fail) ?_ | refine W_cf (by first | (simp; done) | fail) ?_) | refine W_skip ?_ | refine W_bl (c := .seq _ _) ?_ | refine W_bl (c := .region _ _) ?_ | refine W_bl (c := .cond _ _ _) ?_ | refine W_bl (c := .block _ _) ?_ | refine W_rt ?_ | refine W_ex ?_ | refine W_end ?_ | refine W_tail (a := .region _ _) ?_ | refine W_tail (a := .cond _ _ _) ?_ | refine W_tail (a := .ret) ?_ | refine W_tail (a := .exit _) ?_ | refine W_tail (a := .block _ _) ?_ | refine QB_normal ?_ | refine QB_exit ?_ | refine QB_ret ?_ | refine QB_out (by decide) ?_ | refine QL_next ?_ | refine QL_exit ?_ | refine QL_ret ?_ | refine QL_out (by decide) ?_ | (show Fin _ _ .ret _; exact Fin_ret (by first | (simp [c21]; done) | (simp [c21]; with_reducible rfl))) | (show Fin _ _ .normal _; exact Fin_end (by first | (simp [c21]; done) | (simp [c21]; with_reducible rfl))))
    · rw [tree_none h0]
      repeat (first | refine W_assoc ?_ | (show W _ (.seq (.region _ _) _) _ _; refine W_reg (by simp; with_reducible rfl) ?_) | (show R _ _ _ (_ :: _) _ _ _ _; refine R_op (by simp (maxSteps := 2000000) [v1, h0]; with_reducible rfl) ?_) | (show R _ _ _ [] _ _ _ _; refine R_nil (by simp; with_reducible rfl) ?_) | (show W _ (.seq (.cond _ _ _) _) _ _; first | refine W_ct (by first | (simp [v1, h0]; done) | fail) ?_ | refine W_cf (by first | (simp [v1, h0]; done) | fail) ?_) | refine W_skip ?_ | refine W_bl (c := .seq _ _) ?_ | refine W_bl (c := .region _ _) ?_ | refine W_bl (c := .cond _ _ _) ?_ | refine W_bl (c := .block _ _) ?_ | refine W_rt ?_ | refine W_ex ?_ | refine W_end ?_ | refine W_tail (a := .region _ _) ?_ | refine W_tail (a := .cond _ _ _) ?_ | refine W_tail (a := .ret) ?_ | refine W_tail (a := .exit _) ?_ | refine W_tail (a := .block _ _) ?_ | refine QB_normal ?_ | refine QB_exit ?_ | refine QB_ret ?_ | refine QB_out (by decide) ?_ | refine QL_next ?_ | refine QL_exit ?_ | refine QL_ret ?_ | refine QL_out (by decide) ?_ | (show Fin _ _ .ret _; exact Fin_ret (by first | (simp [c21]; done) | (simp [c21]; with_reducible rfl))) | (show Fin _ _ .normal _; exact Fin_end (by first | (simp [c21]; done) | (simp [c21]; with_reducible rfl))))
  simpa using FV_of h

theorem V_R09depth (l : List P2) (hl : l.length ≤ 100) : FV (F T) 24 [.ro 2 (enc e2 l) false] = some (.int .i64 (match tree l with | some t => deep t | none => 0 : Nat)) := by
  have h : F T 24 [.ro 2 (enc e2 l) false] [] = some (.int .i64 (match tree l with | some t => deep t | none => 0 : Nat), []) := by
    have v1 := V_R09check l hl
    refine F_W T24 ?_
    simp only [c24, c24_b, Lift.start]
    by_cases h0 : chk l = 0
    · obtain ⟨t, h1, h2⟩ := tree_some h0
      obtain ⟨hp, hg⟩ := made_post h1
      have ih := F_depth0 l hl t [] l.length (Nat.le_refl _) hg (by rw [List.take_length]; simpa using hp)
      have ihv := FV_of ih
      simp only [clo] at ihv
      have w1 : IntKind.i64.wrap ((l.length : Int) - 1) = (l.length : Int) - 1 := by rw [wrap_i64 _ (by omega) (by omega)]
      rw [h0] at v1
      rw [h2]
      repeat (first | refine W_assoc ?_ | (show W _ (.seq (.region _ _) _) _ _; refine W_reg (by simp; with_reducible rfl) ?_) | (show R _ _ _ (_ :: _) _ _ _ _; refine R_op (by simp (maxSteps := 2000000) [v1, w1, ih, ihv]; with_reducible rfl) ?_) | (show R _ _ _ [] _ _ _ _; refine R_nil (by simp; with_reducible rfl) ?_) | (show W _ (.seq (.cond _ _ _) _) _ _; first | refine W_ct (by first | (simp [v1, w1, ih, ihv]; done) | fail) ?_ | refine W_cf (by first | (simp [v1, w1, ih, ihv]; done) | fail) ?_) | refine W_skip ?_ | refine W_bl (c := .seq _ _) ?_ | refine W_bl (c := .region _ _) ?_ | refine W_bl (c := .cond _ _ _) ?_ | refine W_bl (c := .block _ _) ?_ | refine W_rt ?_ | refine W_ex ?_ | refine W_end ?_ | refine W_tail (a := .region _ _) ?_ | refine W_tail (a := .cond _ _ _) ?_ | refine W_tail (a := .ret) ?_ | refine W_tail (a := .exit _) ?_ | refine W_tail (a := .block _ _) ?_ | refine QB_normal ?_ | refine QB_exit ?_ | refine QB_ret ?_ | refine QB_out (by decide) ?_ | refine QL_next ?_ | refine QL_exit ?_ | refine QL_ret ?_ | refine QL_out (by decide) ?_ | (show Fin _ _ .ret _; exact Fin_ret (by first | (simp [c24]; done) | (simp [c24]; with_reducible rfl))) | (show Fin _ _ .normal _; exact Fin_end (by first | (simp [c24]; done) | (simp [c24]; with_reducible rfl))))
    · rw [tree_none h0]
      repeat (first | refine W_assoc ?_ | (show W _ (.seq (.region _ _) _) _ _; refine W_reg (by simp; with_reducible rfl) ?_) | (show R _ _ _ (_ :: _) _ _ _ _; refine R_op (by simp (maxSteps := 2000000) [v1, h0]; with_reducible rfl) ?_) | (show R _ _ _ [] _ _ _ _; refine R_nil (by simp; with_reducible rfl) ?_) | (show W _ (.seq (.cond _ _ _) _) _ _; first | refine W_ct (by first | (simp [v1, h0]; done) | fail) ?_ | refine W_cf (by first | (simp [v1, h0]; done) | fail) ?_) | refine W_skip ?_ | refine W_bl (c := .seq _ _) ?_ | refine W_bl (c := .region _ _) ?_ | refine W_bl (c := .cond _ _ _) ?_ | refine W_bl (c := .block _ _) ?_ | refine W_rt ?_ | refine W_ex ?_ | refine W_end ?_ | refine W_tail (a := .region _ _) ?_ | refine W_tail (a := .cond _ _ _) ?_ | refine W_tail (a := .ret) ?_ | refine W_tail (a := .exit _) ?_ | refine W_tail (a := .block _ _) ?_ | refine QB_normal ?_ | refine QB_exit ?_ | refine QB_ret ?_ | refine QB_out (by decide) ?_ | refine QL_next ?_ | refine QL_exit ?_ | refine QL_ret ?_ | refine QL_out (by decide) ?_ | (show Fin _ _ .ret _; exact Fin_ret (by first | (simp [c24]; done) | (simp [c24]; with_reducible rfl))) | (show Fin _ _ .normal _; exact Fin_end (by first | (simp [c24]; done) | (simp [c24]; with_reducible rfl))))
  simpa using FV_of h

/-- The numbers that a list asks for. -/
def kl : List P2 → List Int
  | [] => []
  | n :: l => if n.1 = 2 then n.2 :: kl l else kl l

theorem kl_take (l : List P2) (i : Nat) (h : i < l.length) : kl (l.take (i + 1)) = kl (l.take i) ++ (if l[i].1 = 2 then [l[i].2] else []) := by
  have ha : ∀ a b : List P2, kl (a ++ b) = kl a ++ kl b := by
    intro a b
    induction a with
    | nil => rfl
    | cons n a ih => simp only [List.cons_append, kl, ih]; split <;> simp
  rw [List.take_succ_eq_append_getElem h, ha]
  congr 1

theorem kl_len (l : List P2) : (kl l).length ≤ l.length := by
  induction l with
  | nil => simp [kl]
  | cons n l ih => simp only [kl]; split <;> simp <;> omega

/-- One after the other, or all at once. -/
theorem asks_of (l : List P2) : ∀ s : Nat, s < 18446744073709551616 → l.foldl askF s = ofN (fun j => s.testBit j || ofL (kl l) j) 64 := by
  induction l with
  | nil =>
    intro s hs
    have : (fun j => s.testBit j || ofL (kl []) j) = fun j => s.testBit j := by funext j; simp [kl, ofL]
    rw [this, self_bits s hs]; rfl
  | cons n l ih =>
    intro s hs
    rw [List.foldl_cons, ih _ (askF_lt s n hs)]
    refine ofN_congr fun j hj => ?_
    unfold askF
    by_cases h2 : n.1 = 2
    · simp only [h2, if_true, kl]
      have : (wi s n.2).testBit j = (s.testBit j || decide (n.2 = (j : Int))) := by
        unfold wi; rw [ofN_bit]; simp [hj]
      rw [this]
      simp [ofL, Bool.or_assoc]
    · simp only [h2, if_false, kl]

theorem asksL_eq (l : List P2) : asksL l = (match tree l with | some _ => ofN (ofL (kl l)) 64 | none => 0) := by
  unfold asksL
  cases tree l with
  | some t =>
    show l.foldl askF 0 = ofN (ofL (kl l)) 64
    rw [asks_of l 0 (by omega)]
    refine ofN_congr fun j hj => ?_
    simp
  | none => rfl

theorem r09asks_loop (l : List P2) (hl : l.length ≤ 100) : ∀ (k i : Nat) (st : ASt), i + k = l.length → canon [0, 3, 4] st = ⟨[.ro 2 (enc e2 l) false, .top, .top, .own 0 0 (kl (l.take i)).length, .int .i64 i, .top, .top, .top, .top, .top, .top, .top, .top, .top, .top, .top, .top, .top, .top, .top, .top, .top, .top, .top, .top, .top, .top, .top, .top, .top], [(0, ⟨3, 1, false, enc (eInt .i64) (kl (l.take i)), 0⟩)], 1, 0⟩ →
    W T c26_k0 st (Lift.Fin c26 (.int .u64 (ofN (ofL (kl l)) 64), [])) := by
  intro k
  induction k with
  | zero =>
    intro i st hi hc
    have h1 : ¬ i < l.length := by omega
    have e1 : l.take i = l := List.take_of_length_le (by omega)
    rw [e1] at hc
    have hk := kl_len l
    have v1 := F_R06of (kl l) (by omega)
    have v2 := V_R06of (kl l) (by omega)
    unfold c26_k0
    refine W_round hc ?_
    unfold c26_l0
    repeat (first | refine W_assoc ?_ | (show W _ (.seq (.region _ _) _) _ _; refine W_reg (by simp; with_reducible rfl) ?_) | (show R _ _ _ (_ :: _) _ _ _ _; refine R_op (by simp (maxSteps := 2000000) [h1, v1, v2]; with_reducible rfl) ?_) | (show R _ _ _ [] _ _ _ _; refine R_nil (by simp; with_reducible rfl) ?_) | (show W _ (.seq (.cond _ _ _) _) _ _; first | refine W_ct (by first | (simp [h1, v1, v2]; done) | fail) ?_ | refine W_cf (by first | (simp [h1, v1, v2]; done) | fail) ?_) | refine W_skip ?_ | refine W_bl (c := .seq _ _) ?_ | refine W_bl (c := .region _ _) ?_ | refine W_bl (c := .cond _ _ _) ?_ | refine W_bl (c := .block _ _) ?_ | refine W_rt ?_ | refine W_ex ?_ | refine W_end ?_ | refine W_tail (a := .region _ _) ?_ | refine W_tail (a := .cond _ _ _) ?_ | refine W_tail (a := .ret) ?_ | refine W_tail (a := .exit _) ?_ | refine W_tail (a := .block _ _) ?_ | refine QB_normal ?_ | refine QB_exit ?_ | refine QB_ret ?_ | refine QB_out (by decide) ?_ | refine QL_next ?_ | refine QL_exit ?_ | refine QL_ret ?_ | refine QL_out (by decide) ?_ | (show Fin _ _ .ret _; exact Fin_ret (by first | (simp [c26]; done) | (simp [c26]; with_reducible rfl))) | (show Fin _ _ .normal _; exact Fin_end (by first | (simp [c26]; done) | (simp [c26]; with_reducible rfl))))
  | succ k ih =>
    intro i st hi hc
    have hlt : i < l.length := by omega
    have hw := wrapS i _ hlt (by omega)
    have hs := kl_take l i hlt
    have hk := kl_len (l.take i)
    have hk2 : (l.take i).length ≤ 100 := by simp; omega
    have hb : ((kl (l.take i)).length + 1) * 8 ≤ 140737488355328 := by omega
    have hb2 : (kl (l.take i)).length + 1 ≤ 140737488355328 := by omega
    unfold c26_k0
    refine W_round hc ?_
    unfold c26_l0
    by_cases h2 : l[i].1 = 2
    · rw [if_pos h2] at hs
      repeat (first | refine W_assoc ?_ | (show W _ (.seq (.region _ _) _) _ _; refine W_reg (by simp; with_reducible rfl) ?_) | (show R _ _ _ (_ :: _) _ _ _ _; refine R_op (by simp (maxSteps := 2000000) [hlt, hw, h2, hb, hb2]; with_reducible rfl) ?_) | (show R _ _ _ [] _ _ _ _; refine R_nil (by simp; with_reducible rfl) ?_) | (show W _ (.seq (.cond _ _ _) _) _ _; first | refine W_ct (by first | (simp [hlt, hw, h2, hb, hb2]; done) | fail) ?_ | refine W_cf (by first | (simp [hlt, hw, h2, hb, hb2]; done) | fail) ?_) | refine W_skip ?_ | refine W_bl (c := .seq _ _) ?_ | refine W_bl (c := .region _ _) ?_ | refine W_bl (c := .cond _ _ _) ?_ | refine W_bl (c := .block _ _) ?_ | refine W_rt ?_ | refine W_ex ?_ | refine W_end ?_ | refine W_tail (a := .region _ _) ?_ | refine W_tail (a := .cond _ _ _) ?_ | refine W_tail (a := .ret) ?_ | refine W_tail (a := .exit _) ?_ | refine W_tail (a := .block _ _) ?_ | refine QB_normal ?_ | refine QB_exit ?_ | refine QB_ret ?_ | refine QB_out (by decide) ?_ | refine QL_next ?_ | refine QL_exit ?_ | refine QL_ret ?_ | refine QL_out (by decide) ?_ | (show Fin _ _ .ret _; exact Fin_ret (by first | (simp; done) | (simp; with_reducible rfl))) | (show Fin _ _ .normal _; exact Fin_end (by first | (simp; done) | (simp; with_reducible rfl))))
      refine ih (i + 1) _ ?_ ?_
      · omega
      · rw [hs]; simp; try rfl
    · rw [if_neg h2, List.append_nil] at hs
      repeat (first | refine W_assoc ?_ | (show W _ (.seq (.region _ _) _) _ _; refine W_reg (by simp; with_reducible rfl) ?_) | (show R _ _ _ (_ :: _) _ _ _ _; refine R_op (by simp (maxSteps := 2000000) [hlt, hw, h2]; with_reducible rfl) ?_) | (show R _ _ _ [] _ _ _ _; refine R_nil (by simp; with_reducible rfl) ?_) | (show W _ (.seq (.cond _ _ _) _) _ _; first | refine W_ct (by first | (simp [hlt, hw, h2]; done) | fail) ?_ | refine W_cf (by first | (simp [hlt, hw, h2]; done) | fail) ?_) | refine W_skip ?_ | refine W_bl (c := .seq _ _) ?_ | refine W_bl (c := .region _ _) ?_ | refine W_bl (c := .cond _ _ _) ?_ | refine W_bl (c := .block _ _) ?_ | refine W_rt ?_ | refine W_ex ?_ | refine W_end ?_ | refine W_tail (a := .region _ _) ?_ | refine W_tail (a := .cond _ _ _) ?_ | refine W_tail (a := .ret) ?_ | refine W_tail (a := .exit _) ?_ | refine W_tail (a := .block _ _) ?_ | refine QB_normal ?_ | refine QB_exit ?_ | refine QB_ret ?_ | refine QB_out (by decide) ?_ | refine QL_next ?_ | refine QL_exit ?_ | refine QL_ret ?_ | refine QL_out (by decide) ?_ | (show Fin _ _ .ret _; exact Fin_ret (by first | (simp; done) | (simp; with_reducible rfl))) | (show Fin _ _ .normal _; exact Fin_end (by first | (simp; done) | (simp; with_reducible rfl))))
      refine ih (i + 1) _ ?_ ?_
      · omega
      · rw [hs]; simp; try rfl

theorem V_R09asks (l : List P2) (hl : l.length ≤ 100) : FV (F T) 26 [.ro 2 (enc e2 l) false] = some (.int .u64 (asksL l)) := by
  have h : F T 26 [.ro 2 (enc e2 l) false] [] = some (.int .u64 (asksL l), []) := by
    have v1 := V_R09check l hl
    refine F_W T26 ?_
    simp only [c26, c26_b, Lift.start]
    rw [asksL_eq]
    by_cases h0 : chk l = 0
    · obtain ⟨t, h1, h2⟩ := tree_some h0
      rw [h0] at v1
      rw [h2]
      repeat (first | refine W_assoc ?_ | (show W _ (.seq (.region _ _) _) _ _; refine W_reg (by simp; with_reducible rfl) ?_) | (show R _ _ _ (_ :: _) _ _ _ _; refine R_op (by simp (maxSteps := 2000000) [v1]; with_reducible rfl) ?_) | (show R _ _ _ [] _ _ _ _; refine R_nil (by simp; with_reducible rfl) ?_) | (show W _ (.seq (.cond _ _ _) _) _ _; first | refine W_ct (by first | (simp [v1]; done) | fail) ?_ | refine W_cf (by first | (simp [v1]; done) | fail) ?_) | refine W_skip ?_ | refine W_bl (c := .seq _ _) ?_ | refine W_bl (c := .region _ _) ?_ | refine W_bl (c := .cond _ _ _) ?_ | refine W_bl (c := .block _ _) ?_ | refine W_rt ?_ | refine W_ex ?_ | refine W_end ?_ | refine W_tail (a := .region _ _) ?_ | refine W_tail (a := .cond _ _ _) ?_ | refine W_tail (a := .ret) ?_ | refine W_tail (a := .exit _) ?_ | refine W_tail (a := .block _ _) ?_ | refine QB_normal ?_ | refine QB_exit ?_ | refine QB_ret ?_ | refine QB_out (by decide) ?_ | refine QL_next ?_ | refine QL_exit ?_ | refine QL_ret ?_ | refine QL_out (by decide) ?_ | (show Fin _ _ .ret _; exact Fin_ret (by first | (simp; done) | (simp; with_reducible rfl))) | (show Fin _ _ .normal _; exact Fin_end (by first | (simp; done) | (simp; with_reducible rfl))))
      refine r09asks_loop l hl l.length 0 _ ?_ ?_
      · omega
      · simp [kl]; try rfl
    · rw [tree_none h0]
      repeat (first | refine W_assoc ?_ | (show W _ (.seq (.region _ _) _) _ _; refine W_reg (by simp; with_reducible rfl) ?_) | (show R _ _ _ (_ :: _) _ _ _ _; refine R_op (by simp (maxSteps := 2000000) [v1, h0]; with_reducible rfl) ?_) | (show R _ _ _ [] _ _ _ _; refine R_nil (by simp; with_reducible rfl) ?_) | (show W _ (.seq (.cond _ _ _) _) _ _; first | refine W_ct (by first | (simp [v1, h0]; done) | fail) ?_ | refine W_cf (by first | (simp [v1, h0]; done) | fail) ?_) | refine W_skip ?_ | refine W_bl (c := .seq _ _) ?_ | refine W_bl (c := .region _ _) ?_ | refine W_bl (c := .cond _ _ _) ?_ | refine W_bl (c := .block _ _) ?_ | refine W_rt ?_ | refine W_ex ?_ | refine W_end ?_ | refine W_tail (a := .region _ _) ?_ | refine W_tail (a := .cond _ _ _) ?_ | refine W_tail (a := .ret) ?_ | refine W_tail (a := .exit _) ?_ | refine W_tail (a := .block _ _) ?_ | refine QB_normal ?_ | refine QB_exit ?_ | refine QB_ret ?_ | refine QB_out (by decide) ?_ | refine QL_next ?_ | refine QL_exit ?_ | refine QL_ret ?_ | refine QL_out (by decide) ?_ | (show Fin _ _ .ret _; exact Fin_ret (by first | (simp [c26]; done) | (simp [c26]; with_reducible rfl))) | (show Fin _ _ .normal _; exact Fin_end (by first | (simp [c26]; done) | (simp [c26]; with_reducible rfl))))
  simpa using FV_of h

end Go.Proofs.Ytnobgooojbppbab.Need
