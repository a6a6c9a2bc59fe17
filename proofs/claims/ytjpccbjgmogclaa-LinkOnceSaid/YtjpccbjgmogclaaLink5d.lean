/- Two ends, and what is under way: an act. -/
import Derived.Test.YtjpccbjgmogclaaLink4
set_option linter.all false
set_option linter.unusedSimpArgs false
set_option maxRecDepth 100000
set_option maxHeartbeats 8000000
namespace Go.Proofs.Ytjpccbjgmogclaa.Link
attribute [-simp] Go.Proofs.Ytjpccbjgmogclaa.Lift.unf1
open Go Go.RowKit Go.Proofs.Ytjpccbjgmogclaa.Lift Go.Proofs.Ytjpccbjgmogclaa.TLK Go.Proofs.Ytjpccbjgmogclaa.Base Go.Proofs.Ytjpccbjgmogclaa Go.Proofs.Ytjpccbjgmogclaa.Sent

theorem comes0 (P : Pr) (hs : Sm P) (fa fb : Bool) (v0 v1 : Nat) (p : Pt) (ht : p.to = 0) (hg : (takE P.a p).2.2.1 = true → (takE P.a p).2.1 = nm P.c1 ∧ P.c1 < P.p1) (hll : (takE P.a p).2.2.2.length ≤ 100) :
    ∃ fa' fb' w' objs', WF (comesP0 P p) w' objs' ∧ 1 ≤ objs'.length ∧ F T 13 [.ref 0 0 0, .agg (ePt p)] [oPr fa fb (.own 1 0 P.way.length) P v0, ⟨44, 7, false, enc ePt P.way, v1⟩] = some (.tup [], oPr fa' fb' w' (comesP0 P p) v0 :: objs') := by
  have f1 := V_name P.c1 (by have := hs.c1; omega)
  have f2 := V_takE P.a p (by have := hs.a; omega)
  have hwl := hs.w
  have hp := hs.c1
  unfold comesP0
  generalize takE P.a p = r at *
  obtain ⟨e', t, g, l⟩ := r
  obtain ⟨a, b, way, p0, p1, c0, c1⟩ := P
  obtain ⟨kd, pf, pt, pi, pp, ps, bd⟩ := p
  unfold WF
  simp only [oPr] at f1 f2 hg hll hwl hp ht ⊢
  have w1 : IntKind.i64.wrap ((c1 : Int) + 1) = ((c1 + 1 : Nat) : Int) := by rw [wrap_i64 _ (by omega) (by omega)]; omega
  simp only [eEd, ePt] at f2 ⊢
  subst ht
  cases g
  · simp only [Bool.false_eq_true, if_false]
    by_cases hl : l = []
    · subst hl
      simp only [List.append_nil, enc_nil] at f2 ⊢
      have h3 : way.length * 64 ≤ 140737488355328 := by omega
      have h4 : way.length ≤ 140737488355328 := by omega
      refine ⟨false, fb, .own 1 0 way.length, [⟨44, 7, false, enc ePt way, v1⟩], .inl ⟨rfl, v1, rfl⟩, by simp, ?_⟩
      refine F_W T13 ?_
      simp only [c13, c13_b, Lift.start, cPr]
      repeat (first | refine W_assoc ?_ | (show W _ (.seq (.region _ _) _) _ _; refine W_reg (by simp; with_reducible rfl) ?_) | (show R _ _ _ (_ :: _) _ _ _ _; refine R_op (by simp (maxSteps := 2000000) [f1, f2, w1, h3, h4]; with_reducible rfl) ?_) | (show R _ _ _ [] _ _ _ _; refine R_nil (by simp; with_reducible rfl) ?_) | (show W _ (.seq (.cond _ _ _) _) _ _; first | refine W_ct (by first | (simp [f1, f2, w1, h3, h4]; done) | fail) ?_ | refine W_cf (by first | (simp [f1, f2, w1, h3, h4]; done) | fail) ?_) | refine W_skip ?_ | refine W_bl (c := .seq _ _) ?_ | refine W_bl (c := .region _ _) ?_ | refine W_bl (c := .cond _ _ _) ?_ | refine W_bl (c := .block _ _) ?_ | refine W_rt ?_ | refine W_ex ?_ | refine W_end ?_ | refine W_tail (a := .region _ _) ?_ | refine W_tail (a := .cond _ _ _) ?_ | refine W_tail (a := .ret) ?_ | refine W_tail (a := .exit _) ?_ | refine W_tail (a := .block _ _) ?_ | refine QB_normal ?_ | refine QB_exit ?_ | refine QB_ret ?_ | refine QB_out (by decide) ?_ | refine QL_next ?_ | refine QL_exit ?_ | refine QL_ret ?_ | refine QL_out (by decide) ?_ | (show Fin _ _ .ret _; exact Fin_ret (by first | (simp [c13]; done) | (simp [c13]; with_reducible rfl))) | (show Fin _ _ .normal _; exact Fin_end (by first | (simp [c13]; done) | (simp [c13]; with_reducible rfl))))
    · have h2 : ¬ (way.length + l.length ≤ way.length) := by have := List.length_pos_iff.2 hl; omega
      have h3 : (way.length + l.length) * 64 ≤ 140737488355328 := by omega
      have h4 : way.length + l.length ≤ 140737488355328 := by omega
      refine ⟨false, fb, .own 1 0 (way ++ l).length, [⟨44, 7, false, enc ePt (way ++ l), v1 + 1⟩], .inl ⟨rfl, v1 + 1, rfl⟩, by simp, ?_⟩
      refine F_W T13 ?_
      simp only [c13, c13_b, Lift.start, cPr]
      repeat (first | refine W_assoc ?_ | (show W _ (.seq (.region _ _) _) _ _; refine W_reg (by simp; with_reducible rfl) ?_) | (show R _ _ _ (_ :: _) _ _ _ _; refine R_op (by simp (maxSteps := 2000000) [f1, f2, w1, hl, h2, h3, h4]; with_reducible rfl) ?_) | (show R _ _ _ [] _ _ _ _; refine R_nil (by simp; with_reducible rfl) ?_) | (show W _ (.seq (.cond _ _ _) _) _ _; first | refine W_ct (by first | (simp [f1, f2, w1, hl, h2, h3, h4]; done) | fail) ?_ | refine W_cf (by first | (simp [f1, f2, w1, hl, h2, h3, h4]; done) | fail) ?_) | refine W_skip ?_ | refine W_bl (c := .seq _ _) ?_ | refine W_bl (c := .region _ _) ?_ | refine W_bl (c := .cond _ _ _) ?_ | refine W_bl (c := .block _ _) ?_ | refine W_rt ?_ | refine W_ex ?_ | refine W_end ?_ | refine W_tail (a := .region _ _) ?_ | refine W_tail (a := .cond _ _ _) ?_ | refine W_tail (a := .ret) ?_ | refine W_tail (a := .exit _) ?_ | refine W_tail (a := .block _ _) ?_ | refine QB_normal ?_ | refine QB_exit ?_ | refine QB_ret ?_ | refine QB_out (by decide) ?_ | refine QL_next ?_ | refine QL_exit ?_ | refine QL_ret ?_ | refine QL_out (by decide) ?_ | (show Fin _ _ .ret _; exact Fin_ret (by first | (simp [c13]; done) | (simp [c13]; with_reducible rfl))) | (show Fin _ _ .normal _; exact Fin_end (by first | (simp [c13]; done) | (simp [c13]; with_reducible rfl))))
  · obtain ⟨rfl, hlt⟩ := hg rfl
    have hlt' : (c1 : Int) < p1 := by omega
    simp only [if_true]
    by_cases hl : l = []
    · subst hl
      simp only [List.append_nil, enc_nil] at f2 ⊢
      have h3 : way.length * 64 ≤ 140737488355328 := by omega
      have h4 : way.length ≤ 140737488355328 := by omega
      refine ⟨false, fb, .own 1 0 way.length, [⟨44, 7, false, enc ePt way, v1⟩], .inl ⟨rfl, v1, rfl⟩, by simp, ?_⟩
      refine F_W T13 ?_
      simp only [c13, c13_b, Lift.start, cPr]
      repeat (first | refine W_assoc ?_ | (show W _ (.seq (.region _ _) _) _ _; refine W_reg (by simp; with_reducible rfl) ?_) | (show R _ _ _ (_ :: _) _ _ _ _; refine R_op (by simp (maxSteps := 2000000) [f1, f2, w1, hlt, hlt', h3, h4]; with_reducible rfl) ?_) | (show R _ _ _ [] _ _ _ _; refine R_nil (by simp; with_reducible rfl) ?_) | (show W _ (.seq (.cond _ _ _) _) _ _; first | refine W_ct (by first | (simp [f1, f2, w1, hlt, hlt', h3, h4]; done) | fail) ?_ | refine W_cf (by first | (simp [f1, f2, w1, hlt, hlt', h3, h4]; done) | fail) ?_) | refine W_skip ?_ | refine W_bl (c := .seq _ _) ?_ | refine W_bl (c := .region _ _) ?_ | refine W_bl (c := .cond _ _ _) ?_ | refine W_bl (c := .block _ _) ?_ | refine W_rt ?_ | refine W_ex ?_ | refine W_end ?_ | refine W_tail (a := .region _ _) ?_ | refine W_tail (a := .cond _ _ _) ?_ | refine W_tail (a := .ret) ?_ | refine W_tail (a := .exit _) ?_ | refine W_tail (a := .block _ _) ?_ | refine QB_normal ?_ | refine QB_exit ?_ | refine QB_ret ?_ | refine QB_out (by decide) ?_ | refine QL_next ?_ | refine QL_exit ?_ | refine QL_ret ?_ | refine QL_out (by decide) ?_ | (show Fin _ _ .ret _; exact Fin_ret (by first | (simp [c13]; done) | (simp [c13]; with_reducible rfl))) | (show Fin _ _ .normal _; exact Fin_end (by first | (simp [c13]; done) | (simp [c13]; with_reducible rfl))))
    · have h2 : ¬ (way.length + l.length ≤ way.length) := by have := List.length_pos_iff.2 hl; omega
      have h3 : (way.length + l.length) * 64 ≤ 140737488355328 := by omega
      have h4 : way.length + l.length ≤ 140737488355328 := by omega
      refine ⟨false, fb, .own 1 0 (way ++ l).length, [⟨44, 7, false, enc ePt (way ++ l), v1 + 1⟩], .inl ⟨rfl, v1 + 1, rfl⟩, by simp, ?_⟩
      refine F_W T13 ?_
      simp only [c13, c13_b, Lift.start, cPr]
      repeat (first | refine W_assoc ?_ | (show W _ (.seq (.region _ _) _) _ _; refine W_reg (by simp; with_reducible rfl) ?_) | (show R _ _ _ (_ :: _) _ _ _ _; refine R_op (by simp (maxSteps := 2000000) [f1, f2, w1, hlt, hlt', hl, h2, h3, h4]; with_reducible rfl) ?_) | (show R _ _ _ [] _ _ _ _; refine R_nil (by simp; with_reducible rfl) ?_) | (show W _ (.seq (.cond _ _ _) _) _ _; first | refine W_ct (by first | (simp [f1, f2, w1, hlt, hlt', hl, h2, h3, h4]; done) | fail) ?_ | refine W_cf (by first | (simp [f1, f2, w1, hlt, hlt', hl, h2, h3, h4]; done) | fail) ?_) | refine W_skip ?_ | refine W_bl (c := .seq _ _) ?_ | refine W_bl (c := .region _ _) ?_ | refine W_bl (c := .cond _ _ _) ?_ | refine W_bl (c := .block _ _) ?_ | refine W_rt ?_ | refine W_ex ?_ | refine W_end ?_ | refine W_tail (a := .region _ _) ?_ | refine W_tail (a := .cond _ _ _) ?_ | refine W_tail (a := .ret) ?_ | refine W_tail (a := .exit _) ?_ | refine W_tail (a := .block _ _) ?_ | refine QB_normal ?_ | refine QB_exit ?_ | refine QB_ret ?_ | refine QB_out (by decide) ?_ | refine QL_next ?_ | refine QL_exit ?_ | refine QL_ret ?_ | refine QL_out (by decide) ?_ | (show Fin _ _ .ret _; exact Fin_ret (by first | (simp [c13]; done) | (simp [c13]; with_reducible rfl))) | (show Fin _ _ .normal _; exact Fin_end (by first | (simp [c13]; done) | (simp [c13]; with_reducible rfl))))

end Go.Proofs.Ytjpccbjgmogclaa.Link
