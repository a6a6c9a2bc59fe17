/- Packets: what is opened, by the document; the law. -/
import Derived.Test.YtnobgooojbppbacPack4
set_option linter.all false
set_option linter.unusedSimpArgs false
set_option maxRecDepth 100000
set_option maxHeartbeats 8000000
namespace Go.Proofs.Ytnobgooojbppbac.Oct
open Go Go.RowKit Go.Proofs.Ytnobgooojbppbac.Lift Go.Proofs.Ytnobgooojbppbac.TOC Go.Proofs.Ytnobgooojbppbac.Base Go.Proofs.Ytnobgooojbppbac Go.Proofs.Ytnobgooojbppbac.CrcC

theorem ropen_body_c (s x : List Int) (hs : ∀ a ∈ s, 0 ≤ a ∧ a ≤ 255) (hsl : s.length ≤ 4112) (hx : ∀ a ∈ x, 0 ≤ a ∧ a ≤ 255) (hxl : x.length ≤ 4096) (u : Nat) (hcut : cutP s = (x, u, 0)) (hu : ¬ u < s.length) (hk : (rdL x 0 4).1 = 4) : F T 38 [.str (bs s)] [] = some (.tup [.agg (pk (parseP x).1), .int .i64 (parseP x).2], []) := by
  have hc := FV_of (F_RCut s hs hsl)
  rw [hcut] at hc
  simp only [clo, List.map] at hc
  have hu' : ¬ (u : Int) < s.length := by omega
  have q0 : (∀ a ∈ x, 0 ≤ a ∧ a ≤ 255) ∧ x.length ≤ 4096 := ⟨hx, hxl⟩
  have f1 := F_R23Least x hx (by omega) 0 true 4
  rw [rdH_tt] at f1
  unfold parseP readP
  have q1 := drop_rg (rdL x 0 4).2.1 q0
  generalize rdL x 0 4 = a at *
  obtain ⟨k, n1, e1⟩ := a
  simp only [] at *
  generalize x.drop n1 = x1 at *
  have f2 := F_MNum x1 e1 71 q1.1 (by have := q1.2; omega)
  have q2 := drop_rg (rdN x1 e1 71).2.1 q1
  generalize rdN x1 e1 71 = a at *
  obtain ⟨fr, n2, e2⟩ := a
  simp only [] at *
  generalize x1.drop n2 = x2 at *
  have f3 := F_MNum x2 e2 71 q2.1 (by have := q2.2; omega)
  have q3 := drop_rg (rdN x2 e2 71).2.1 q2
  generalize rdN x2 e2 71 = a at *
  obtain ⟨to, n3, e3⟩ := a
  simp only [] at *
  generalize x2.drop n3 = x3 at *
  have ff := F_MFail x3 e3 3
  obtain ⟨e3', he3⟩ : ∃ e, e = fail3 (decide (fr = to)) e3 := ⟨_, rfl⟩
  rw [← he3]
  have f4 := F_R23Least x3 q3.1 (by have := q3.2; omega) e3' true 72057594037927935
  rw [rdH_tt] at f4
  have q4 := drop_rg (rdL x3 e3' 72057594037927935).2.1 q3
  generalize rdL x3 e3' 72057594037927935 = a at *
  obtain ⟨ic, n4, e4⟩ := a
  simp only [] at *
  generalize x3.drop n4 = x4 at *
  refine F_W T38 ?_
  simp only [c38, c38_b, Lift.start]
  rcases hk with rfl
  · simp only [show hP 4 = false from rfl, show hS 4 = false from rfl, show hB 4 = true from rfl]
    have f5 := F_R23Least x4 q4.1 (by have := q4.2; omega) e4 false 72057594037927935
    have q5 := drop_rg (rdH false true x4 e4 72057594037927935).2.1 q4
    generalize rdH false true x4 e4 72057594037927935 = a5 at *
    obtain ⟨w5, n5, e5⟩ := a5
    simp only [] at *
    generalize x4.drop n5 = x5 at *
    have f6 := F_R23Least x5 q5.1 (by have := q5.2; omega) e5 false 72057594037927935
    have q6 := drop_rg (rdH false true x5 e5 72057594037927935).2.1 q5
    generalize rdH false true x5 e5 72057594037927935 = a6 at *
    obtain ⟨w6, n6, e6⟩ := a6
    simp only [] at *
    generalize x5.drop n6 = x6 at *
    simp only [rdB, if_true]
    have f7 := F_MText x6 e6 32 q6.1 (by have := q6.2; omega)
    generalize rdT x6 e6 32 = a7 at *
    obtain ⟨w7, n7, e7⟩ := a7
    simp only [] at *
    generalize x6.drop n7 = x7 at *
    have fb := F_MFail x7 e7 3
    obtain ⟨ez, hez⟩ : ∃ e, e = fail3 (decide (w7 = [])) e7 := ⟨_, rfl⟩
    rw [← hez]
    have fe := F_MEnd x7 ez
    by_cases hft : fr = to
    · rw [decide_eq_true hft, fail3_t] at he3
      rw [← he3] at ff
      subst hft
      by_cases hw : w7 = []
      · rw [decide_eq_true hw, fail3_t] at hez
        rw [← hez] at fb
        subst hw
        by_cases hz : endE ez x7.length = 0
        · rw [hz] at fe ⊢
          rw [if_neg (by simp)]
          repeat (first | refine W_assoc ?_ | (show W _ (.seq (.region _ _) _) _ _; refine W_reg (by simp; with_reducible rfl) ?_) | (show R _ _ _ (_ :: _) _ _ _ _; refine R_op (by simp (maxSteps := 2000000) [hc, f1, f2, f3, f4, hu, hu', f5, f6, f7, fe, ff, fb]; with_reducible rfl) ?_) | (show R _ _ _ [] _ _ _ _; refine R_nil (by simp; with_reducible rfl) ?_) | (show W _ (.seq (.cond _ _ _) _) _ _; first | refine W_ct (by first | (simp [hc, f1, f2, f3, f4, hu, hu', f5, f6, f7, fe, ff, fb]; done) | fail) ?_ | refine W_cf (by first | (simp [hc, f1, f2, f3, f4, hu, hu', f5, f6, f7, fe, ff, fb]; done) | fail) ?_) | refine W_skip ?_ | refine W_bl (c := .seq _ _) ?_ | refine W_bl (c := .region _ _) ?_ | refine W_bl (c := .cond _ _ _) ?_ | refine W_bl (c := .block _ _) ?_ | refine W_rt ?_ | refine W_ex ?_ | refine W_end ?_ | refine W_tail (a := .region _ _) ?_ | refine W_tail (a := .cond _ _ _) ?_ | refine W_tail (a := .ret) ?_ | refine W_tail (a := .exit _) ?_ | refine W_tail (a := .block _ _) ?_ | refine QB_normal ?_ | refine QB_exit ?_ | refine QB_ret ?_ | refine QB_out (by decide) ?_ | refine QL_next ?_ | refine QL_exit ?_ | refine QL_ret ?_ | refine QL_out (by decide) ?_ | (show Fin _ _ .ret _; exact Fin_ret (by first | (simp [c38, noP, bs0]; done) | (simp [c38, noP, bs0]; with_reducible rfl))) | (show Fin _ _ .normal _; exact Fin_end (by first | (simp [c38, noP, bs0]; done) | (simp [c38, noP, bs0]; with_reducible rfl))))
        · rw [if_pos hz]
          repeat (first | refine W_assoc ?_ | (show W _ (.seq (.region _ _) _) _ _; refine W_reg (by simp; with_reducible rfl) ?_) | (show R _ _ _ (_ :: _) _ _ _ _; refine R_op (by simp (maxSteps := 2000000) [hc, f1, f2, f3, f4, hu, hu', f5, f6, f7, fe, ff, fb, hz]; with_reducible rfl) ?_) | (show R _ _ _ [] _ _ _ _; refine R_nil (by simp; with_reducible rfl) ?_) | (show W _ (.seq (.cond _ _ _) _) _ _; first | refine W_ct (by first | (simp [hc, f1, f2, f3, f4, hu, hu', f5, f6, f7, fe, ff, fb, hz]; done) | fail) ?_ | refine W_cf (by first | (simp [hc, f1, f2, f3, f4, hu, hu', f5, f6, f7, fe, ff, fb, hz]; done) | fail) ?_) | refine W_skip ?_ | refine W_bl (c := .seq _ _) ?_ | refine W_bl (c := .region _ _) ?_ | refine W_bl (c := .cond _ _ _) ?_ | refine W_bl (c := .block _ _) ?_ | refine W_rt ?_ | refine W_ex ?_ | refine W_end ?_ | refine W_tail (a := .region _ _) ?_ | refine W_tail (a := .cond _ _ _) ?_ | refine W_tail (a := .ret) ?_ | refine W_tail (a := .exit _) ?_ | refine W_tail (a := .block _ _) ?_ | refine QB_normal ?_ | refine QB_exit ?_ | refine QB_ret ?_ | refine QB_out (by decide) ?_ | refine QL_next ?_ | refine QL_exit ?_ | refine QL_ret ?_ | refine QL_out (by decide) ?_ | (show Fin _ _ .ret _; exact Fin_ret (by first | (simp [c38, noP, bs0]; done) | (simp [c38, noP, bs0]; with_reducible rfl))) | (show Fin _ _ .normal _; exact Fin_end (by first | (simp [c38, noP, bs0]; done) | (simp [c38, noP, bs0]; with_reducible rfl))))
      · rw [decide_eq_false hw, fail3_f] at hez
        subst hez
        by_cases hz : endE ez x7.length = 0
        · rw [hz] at fe ⊢
          rw [if_neg (by simp)]
          repeat (first | refine W_assoc ?_ | (show W _ (.seq (.region _ _) _) _ _; refine W_reg (by simp; with_reducible rfl) ?_) | (show R _ _ _ (_ :: _) _ _ _ _; refine R_op (by simp (maxSteps := 2000000) [hc, f1, f2, f3, f4, hu, hu', f5, f6, f7, fe, ff, hw]; with_reducible rfl) ?_) | (show R _ _ _ [] _ _ _ _; refine R_nil (by simp; with_reducible rfl) ?_) | (show W _ (.seq (.cond _ _ _) _) _ _; first | refine W_ct (by first | (simp [hc, f1, f2, f3, f4, hu, hu', f5, f6, f7, fe, ff, hw]; done) | fail) ?_ | refine W_cf (by first | (simp [hc, f1, f2, f3, f4, hu, hu', f5, f6, f7, fe, ff, hw]; done) | fail) ?_) | refine W_skip ?_ | refine W_bl (c := .seq _ _) ?_ | refine W_bl (c := .region _ _) ?_ | refine W_bl (c := .cond _ _ _) ?_ | refine W_bl (c := .block _ _) ?_ | refine W_rt ?_ | refine W_ex ?_ | refine W_end ?_ | refine W_tail (a := .region _ _) ?_ | refine W_tail (a := .cond _ _ _) ?_ | refine W_tail (a := .ret) ?_ | refine W_tail (a := .exit _) ?_ | refine W_tail (a := .block _ _) ?_ | refine QB_normal ?_ | refine QB_exit ?_ | refine QB_ret ?_ | refine QB_out (by decide) ?_ | refine QL_next ?_ | refine QL_exit ?_ | refine QL_ret ?_ | refine QL_out (by decide) ?_ | (show Fin _ _ .ret _; exact Fin_ret (by first | (simp [c38, noP, bs0]; done) | (simp [c38, noP, bs0]; with_reducible rfl))) | (show Fin _ _ .normal _; exact Fin_end (by first | (simp [c38, noP, bs0]; done) | (simp [c38, noP, bs0]; with_reducible rfl))))
        · rw [if_pos hz]
          repeat (first | refine W_assoc ?_ | (show W _ (.seq (.region _ _) _) _ _; refine W_reg (by simp; with_reducible rfl) ?_) | (show R _ _ _ (_ :: _) _ _ _ _; refine R_op (by simp (maxSteps := 2000000) [hc, f1, f2, f3, f4, hu, hu', f5, f6, f7, fe, ff, hw, hz]; with_reducible rfl) ?_) | (show R _ _ _ [] _ _ _ _; refine R_nil (by simp; with_reducible rfl) ?_) | (show W _ (.seq (.cond _ _ _) _) _ _; first | refine W_ct (by first | (simp [hc, f1, f2, f3, f4, hu, hu', f5, f6, f7, fe, ff, hw, hz]; done) | fail) ?_ | refine W_cf (by first | (simp [hc, f1, f2, f3, f4, hu, hu', f5, f6, f7, fe, ff, hw, hz]; done) | fail) ?_) | refine W_skip ?_ | refine W_bl (c := .seq _ _) ?_ | refine W_bl (c := .region _ _) ?_ | refine W_bl (c := .cond _ _ _) ?_ | refine W_bl (c := .block _ _) ?_ | refine W_rt ?_ | refine W_ex ?_ | refine W_end ?_ | refine W_tail (a := .region _ _) ?_ | refine W_tail (a := .cond _ _ _) ?_ | refine W_tail (a := .ret) ?_ | refine W_tail (a := .exit _) ?_ | refine W_tail (a := .block _ _) ?_ | refine QB_normal ?_ | refine QB_exit ?_ | refine QB_ret ?_ | refine QB_out (by decide) ?_ | refine QL_next ?_ | refine QL_exit ?_ | refine QL_ret ?_ | refine QL_out (by decide) ?_ | (show Fin _ _ .ret _; exact Fin_ret (by first | (simp [c38, noP, bs0]; done) | (simp [c38, noP, bs0]; with_reducible rfl))) | (show Fin _ _ .normal _; exact Fin_end (by first | (simp [c38, noP, bs0]; done) | (simp [c38, noP, bs0]; with_reducible rfl))))
    · rw [decide_eq_false hft, fail3_f] at he3
      subst he3
      by_cases hw : w7 = []
      · rw [decide_eq_true hw, fail3_t] at hez
        rw [← hez] at fb
        subst hw
        by_cases hz : endE ez x7.length = 0
        · rw [hz] at fe ⊢
          rw [if_neg (by simp)]
          repeat (first | refine W_assoc ?_ | (show W _ (.seq (.region _ _) _) _ _; refine W_reg (by simp; with_reducible rfl) ?_) | (show R _ _ _ (_ :: _) _ _ _ _; refine R_op (by simp (maxSteps := 2000000) [hc, f1, f2, f3, f4, hu, hu', f5, f6, f7, fe, hft, fb]; with_reducible rfl) ?_) | (show R _ _ _ [] _ _ _ _; refine R_nil (by simp; with_reducible rfl) ?_) | (show W _ (.seq (.cond _ _ _) _) _ _; first | refine W_ct (by first | (simp [hc, f1, f2, f3, f4, hu, hu', f5, f6, f7, fe, hft, fb]; done) | fail) ?_ | refine W_cf (by first | (simp [hc, f1, f2, f3, f4, hu, hu', f5, f6, f7, fe, hft, fb]; done) | fail) ?_) | refine W_skip ?_ | refine W_bl (c := .seq _ _) ?_ | refine W_bl (c := .region _ _) ?_ | refine W_bl (c := .cond _ _ _) ?_ | refine W_bl (c := .block _ _) ?_ | refine W_rt ?_ | refine W_ex ?_ | refine W_end ?_ | refine W_tail (a := .region _ _) ?_ | refine W_tail (a := .cond _ _ _) ?_ | refine W_tail (a := .ret) ?_ | refine W_tail (a := .exit _) ?_ | refine W_tail (a := .block _ _) ?_ | refine QB_normal ?_ | refine QB_exit ?_ | refine QB_ret ?_ | refine QB_out (by decide) ?_ | refine QL_next ?_ | refine QL_exit ?_ | refine QL_ret ?_ | refine QL_out (by decide) ?_ | (show Fin _ _ .ret _; exact Fin_ret (by first | (simp [c38, noP, bs0]; done) | (simp [c38, noP, bs0]; with_reducible rfl))) | (show Fin _ _ .normal _; exact Fin_end (by first | (simp [c38, noP, bs0]; done) | (simp [c38, noP, bs0]; with_reducible rfl))))
        · rw [if_pos hz]
          repeat (first | refine W_assoc ?_ | (show W _ (.seq (.region _ _) _) _ _; refine W_reg (by simp; with_reducible rfl) ?_) | (show R _ _ _ (_ :: _) _ _ _ _; refine R_op (by simp (maxSteps := 2000000) [hc, f1, f2, f3, f4, hu, hu', f5, f6, f7, fe, hft, fb, hz]; with_reducible rfl) ?_) | (show R _ _ _ [] _ _ _ _; refine R_nil (by simp; with_reducible rfl) ?_) | (show W _ (.seq (.cond _ _ _) _) _ _; first | refine W_ct (by first | (simp [hc, f1, f2, f3, f4, hu, hu', f5, f6, f7, fe, hft, fb, hz]; done) | fail) ?_ | refine W_cf (by first | (simp [hc, f1, f2, f3, f4, hu, hu', f5, f6, f7, fe, hft, fb, hz]; done) | fail) ?_) | refine W_skip ?_ | refine W_bl (c := .seq _ _) ?_ | refine W_bl (c := .region _ _) ?_ | refine W_bl (c := .cond _ _ _) ?_ | refine W_bl (c := .block _ _) ?_ | refine W_rt ?_ | refine W_ex ?_ | refine W_end ?_ | refine W_tail (a := .region _ _) ?_ | refine W_tail (a := .cond _ _ _) ?_ | refine W_tail (a := .ret) ?_ | refine W_tail (a := .exit _) ?_ | refine W_tail (a := .block _ _) ?_ | refine QB_normal ?_ | refine QB_exit ?_ | refine QB_ret ?_ | refine QB_out (by decide) ?_ | refine QL_next ?_ | refine QL_exit ?_ | refine QL_ret ?_ | refine QL_out (by decide) ?_ | (show Fin _ _ .ret _; exact Fin_ret (by first | (simp [c38, noP, bs0]; done) | (simp [c38, noP, bs0]; with_reducible rfl))) | (show Fin _ _ .normal _; exact Fin_end (by first | (simp [c38, noP, bs0]; done) | (simp [c38, noP, bs0]; with_reducible rfl))))
      · rw [decide_eq_false hw, fail3_f] at hez
        subst hez
        by_cases hz : endE ez x7.length = 0
        · rw [hz] at fe ⊢
          rw [if_neg (by simp)]
          repeat (first | refine W_assoc ?_ | (show W _ (.seq (.region _ _) _) _ _; refine W_reg (by simp; with_reducible rfl) ?_) | (show R _ _ _ (_ :: _) _ _ _ _; refine R_op (by simp (maxSteps := 2000000) [hc, f1, f2, f3, f4, hu, hu', f5, f6, f7, fe, hft, hw]; with_reducible rfl) ?_) | (show R _ _ _ [] _ _ _ _; refine R_nil (by simp; with_reducible rfl) ?_) | (show W _ (.seq (.cond _ _ _) _) _ _; first | refine W_ct (by first | (simp [hc, f1, f2, f3, f4, hu, hu', f5, f6, f7, fe, hft, hw]; done) | fail) ?_ | refine W_cf (by first | (simp [hc, f1, f2, f3, f4, hu, hu', f5, f6, f7, fe, hft, hw]; done) | fail) ?_) | refine W_skip ?_ | refine W_bl (c := .seq _ _) ?_ | refine W_bl (c := .region _ _) ?_ | refine W_bl (c := .cond _ _ _) ?_ | refine W_bl (c := .block _ _) ?_ | refine W_rt ?_ | refine W_ex ?_ | refine W_end ?_ | refine W_tail (a := .region _ _) ?_ | refine W_tail (a := .cond _ _ _) ?_ | refine W_tail (a := .ret) ?_ | refine W_tail (a := .exit _) ?_ | refine W_tail (a := .block _ _) ?_ | refine QB_normal ?_ | refine QB_exit ?_ | refine QB_ret ?_ | refine QB_out (by decide) ?_ | refine QL_next ?_ | refine QL_exit ?_ | refine QL_ret ?_ | refine QL_out (by decide) ?_ | (show Fin _ _ .ret _; exact Fin_ret (by first | (simp [c38, noP, bs0]; done) | (simp [c38, noP, bs0]; with_reducible rfl))) | (show Fin _ _ .normal _; exact Fin_end (by first | (simp [c38, noP, bs0]; done) | (simp [c38, noP, bs0]; with_reducible rfl))))
        · rw [if_pos hz]
          repeat (first | refine W_assoc ?_ | (show W _ (.seq (.region _ _) _) _ _; refine W_reg (by simp; with_reducible rfl) ?_) | (show R _ _ _ (_ :: _) _ _ _ _; refine R_op (by simp (maxSteps := 2000000) [hc, f1, f2, f3, f4, hu, hu', f5, f6, f7, fe, hft, hw, hz]; with_reducible rfl) ?_) | (show R _ _ _ [] _ _ _ _; refine R_nil (by simp; with_reducible rfl) ?_) | (show W _ (.seq (.cond _ _ _) _) _ _; first | refine W_ct (by first | (simp [hc, f1, f2, f3, f4, hu, hu', f5, f6, f7, fe, hft, hw, hz]; done) | fail) ?_ | refine W_cf (by first | (simp [hc, f1, f2, f3, f4, hu, hu', f5, f6, f7, fe, hft, hw, hz]; done) | fail) ?_) | refine W_skip ?_ | refine W_bl (c := .seq _ _) ?_ | refine W_bl (c := .region _ _) ?_ | refine W_bl (c := .cond _ _ _) ?_ | refine W_bl (c := .block _ _) ?_ | refine W_rt ?_ | refine W_ex ?_ | refine W_end ?_ | refine W_tail (a := .region _ _) ?_ | refine W_tail (a := .cond _ _ _) ?_ | refine W_tail (a := .ret) ?_ | refine W_tail (a := .exit _) ?_ | refine W_tail (a := .block _ _) ?_ | refine QB_normal ?_ | refine QB_exit ?_ | refine QB_ret ?_ | refine QB_out (by decide) ?_ | refine QL_next ?_ | refine QL_exit ?_ | refine QL_ret ?_ | refine QL_out (by decide) ?_ | (show Fin _ _ .ret _; exact Fin_ret (by first | (simp [c38, noP, bs0]; done) | (simp [c38, noP, bs0]; with_reducible rfl))) | (show Fin _ _ .normal _; exact Fin_end (by first | (simp [c38, noP, bs0]; done) | (simp [c38, noP, bs0]; with_reducible rfl))))

end Go.Proofs.Ytnobgooojbppbac.Oct
