/- Two ends, and what is under way: an act. -/
import Derived.Test.YtjpccbjgmogclaaLink4
set_option linter.all false
set_option linter.unusedSimpArgs false
set_option maxRecDepth 100000
set_option maxHeartbeats 8000000
namespace Go.Proofs.Ytjpccbjgmogclaa.Link
attribute [-simp] Go.Proofs.Ytjpccbjgmogclaa.Lift.unf1
open Go Go.RowKit Go.Proofs.Ytjpccbjgmogclaa.Lift Go.Proofs.Ytjpccbjgmogclaa.TLK Go.Proofs.Ytjpccbjgmogclaa.Base Go.Proofs.Ytjpccbjgmogclaa Go.Proofs.Ytjpccbjgmogclaa.Sent

theorem puts0 (P : Pr) (hs : Sm P) (fa fb : Bool) (v0 : Nat) (w : AV) (objs : List AObj) (hw : WF P w objs) :
    ∃ fa' fb' w' objs', WF (putsP0 P) w' objs' ∧ objs.length ≤ objs'.length ∧ F T 48 [.ref 0 0 0, .int .i64 0] (oPr fa fb w P v0 :: objs) = some (.tup [], oPr fa' fb' w' (putsP0 P) v0 :: objs') := by
  have f1 := V_name P.p0 (by have := hs.p0; omega)
  have f2 := V_putE P.a 16 (nm P.p0) (by have := hs.a; omega)
  have hll := putE_len P.a 16 (nm P.p0)
  have hwl := hs.w
  have hp := hs.p0
  unfold putsP0
  generalize putE P.a 16 (nm P.p0) = r at *
  obtain ⟨e', l, c⟩ := r
  obtain ⟨a, b, way, p0, p1, c0, c1⟩ := P
  unfold WF at *
  simp only [oPr] at f1 f2 hll hw hwl hp ⊢
  have w1 : IntKind.i64.wrap ((p0 : Int) + 1) = ((p0 + 1 : Nat) : Int) := by rw [wrap_i64 _ (by omega) (by omega)]; omega
  simp only [eEd] at f2
  rcases hw with ⟨rfl, v1, rfl⟩ | ⟨rfl, rfl, rfl⟩
  · by_cases h0 : c = 0
    · subst h0
      simp only [if_true, List.nil_append]
      by_cases hl : l = []
      · subst hl
        simp only [List.append_nil, enc_nil] at f2 ⊢
        have h3 : way.length * 64 ≤ 140737488355328 := by omega
        have h4 : way.length ≤ 140737488355328 := by omega
        refine ⟨false, fb, .own 1 0 way.length, [⟨44, 7, false, enc ePt way, v1⟩], .inl ⟨rfl, v1, rfl⟩, by simp, ?_⟩
        refine F_W T48 ?_
        simp only [c48, c48_b, Lift.start, cPr]
        repeat (first | refine W_assoc ?_ | (show W _ (.seq (.region _ _) _) _ _; refine W_reg (by simp; with_reducible rfl) ?_) | (show R _ _ _ (_ :: _) _ _ _ _; refine R_op (by simp (maxSteps := 2000000) [f1, f2, w1, h3, h4]; with_reducible rfl) ?_) | (show R _ _ _ [] _ _ _ _; refine R_nil (by simp; with_reducible rfl) ?_) | (show W _ (.seq (.cond _ _ _) _) _ _; first | refine W_ct (by first | (simp [f1, f2, w1, h3, h4]; done) | fail) ?_ | refine W_cf (by first | (simp [f1, f2, w1, h3, h4]; done) | fail) ?_) | refine W_skip ?_ | refine W_bl (c := .seq _ _) ?_ | refine W_bl (c := .region _ _) ?_ | refine W_bl (c := .cond _ _ _) ?_ | refine W_bl (c := .block _ _) ?_ | refine W_rt ?_ | refine W_ex ?_ | refine W_end ?_ | refine W_tail (a := .region _ _) ?_ | refine W_tail (a := .cond _ _ _) ?_ | refine W_tail (a := .ret) ?_ | refine W_tail (a := .exit _) ?_ | refine W_tail (a := .block _ _) ?_ | refine QB_normal ?_ | refine QB_exit ?_ | refine QB_ret ?_ | refine QB_out (by decide) ?_ | refine QL_next ?_ | refine QL_exit ?_ | refine QL_ret ?_ | refine QL_out (by decide) ?_ | (show Fin _ _ .ret _; exact Fin_ret (by first | (simp [c48]; done) | (simp [c48]; with_reducible rfl))) | (show Fin _ _ .normal _; exact Fin_end (by first | (simp [c48]; done) | (simp [c48]; with_reducible rfl))))
      · have h2 : ¬ (way.length + l.length ≤ way.length) := by have := List.length_pos_iff.2 hl; omega
        have h3 : (way.length + l.length) * 64 ≤ 140737488355328 := by omega
        have h4 : way.length + l.length ≤ 140737488355328 := by omega
        refine ⟨false, fb, .own 1 0 (way ++ l).length, [⟨44, 7, false, enc ePt (way ++ l), v1 + 1⟩], .inl ⟨rfl, v1 + 1, rfl⟩, by simp, ?_⟩
        refine F_W T48 ?_
        simp only [c48, c48_b, Lift.start, cPr]
        repeat (first | refine W_assoc ?_ | (show W _ (.seq (.region _ _) _) _ _; refine W_reg (by simp; with_reducible rfl) ?_) | (show R _ _ _ (_ :: _) _ _ _ _; refine R_op (by simp (maxSteps := 2000000) [f1, f2, w1, hl, h2, h3, h4]; with_reducible rfl) ?_) | (show R _ _ _ [] _ _ _ _; refine R_nil (by simp; with_reducible rfl) ?_) | (show W _ (.seq (.cond _ _ _) _) _ _; first | refine W_ct (by first | (simp [f1, f2, w1, hl, h2, h3, h4]; done) | fail) ?_ | refine W_cf (by first | (simp [f1, f2, w1, hl, h2, h3, h4]; done) | fail) ?_) | refine W_skip ?_ | refine W_bl (c := .seq _ _) ?_ | refine W_bl (c := .region _ _) ?_ | refine W_bl (c := .cond _ _ _) ?_ | refine W_bl (c := .block _ _) ?_ | refine W_rt ?_ | refine W_ex ?_ | refine W_end ?_ | refine W_tail (a := .region _ _) ?_ | refine W_tail (a := .cond _ _ _) ?_ | refine W_tail (a := .ret) ?_ | refine W_tail (a := .exit _) ?_ | refine W_tail (a := .block _ _) ?_ | refine QB_normal ?_ | refine QB_exit ?_ | refine QB_ret ?_ | refine QB_out (by decide) ?_ | refine QL_next ?_ | refine QL_exit ?_ | refine QL_ret ?_ | refine QL_out (by decide) ?_ | (show Fin _ _ .ret _; exact Fin_ret (by first | (simp [c48]; done) | (simp [c48]; with_reducible rfl))) | (show Fin _ _ .normal _; exact Fin_end (by first | (simp [c48]; done) | (simp [c48]; with_reducible rfl))))
    · simp only [if_neg h0]
      refine ⟨fa, fb, .own 1 0 way.length, [⟨44, 7, false, enc ePt way, v1⟩], .inl ⟨rfl, v1, rfl⟩, by simp, ?_⟩
      refine F_W T48 ?_
      simp only [c48, c48_b, Lift.start, cPr]
      repeat (first | refine W_assoc ?_ | (show W _ (.seq (.region _ _) _) _ _; refine W_reg (by simp; with_reducible rfl) ?_) | (show R _ _ _ (_ :: _) _ _ _ _; refine R_op (by simp (maxSteps := 2000000) [f1, f2, w1, h0]; with_reducible rfl) ?_) | (show R _ _ _ [] _ _ _ _; refine R_nil (by simp; with_reducible rfl) ?_) | (show W _ (.seq (.cond _ _ _) _) _ _; first | refine W_ct (by first | (simp [f1, f2, w1, h0]; done) | fail) ?_ | refine W_cf (by first | (simp [f1, f2, w1, h0]; done) | fail) ?_) | refine W_skip ?_ | refine W_bl (c := .seq _ _) ?_ | refine W_bl (c := .region _ _) ?_ | refine W_bl (c := .cond _ _ _) ?_ | refine W_bl (c := .block _ _) ?_ | refine W_rt ?_ | refine W_ex ?_ | refine W_end ?_ | refine W_tail (a := .region _ _) ?_ | refine W_tail (a := .cond _ _ _) ?_ | refine W_tail (a := .ret) ?_ | refine W_tail (a := .exit _) ?_ | refine W_tail (a := .block _ _) ?_ | refine QB_normal ?_ | refine QB_exit ?_ | refine QB_ret ?_ | refine QB_out (by decide) ?_ | refine QL_next ?_ | refine QL_exit ?_ | refine QL_ret ?_ | refine QL_out (by decide) ?_ | (show Fin _ _ .ret _; exact Fin_ret (by first | (simp [c48]; done) | (simp [c48]; with_reducible rfl))) | (show Fin _ _ .normal _; exact Fin_end (by first | (simp [c48]; done) | (simp [c48]; with_reducible rfl))))
  · by_cases h0 : c = 0
    · subst h0
      simp only [if_true, List.nil_append]
      by_cases hl : l = []
      · subst hl
        simp only [List.append_nil, enc_nil] at f2 ⊢
        refine ⟨false, fb, .own 1 0 0, [⟨44, 7, false, [], 0⟩], .inl ⟨rfl, 0, rfl⟩, by simp, ?_⟩
        refine F_W T48 ?_
        simp only [c48, c48_b, Lift.start, cPr]
        repeat (first | refine W_assoc ?_ | (show W _ (.seq (.region _ _) _) _ _; refine W_reg (by simp; with_reducible rfl) ?_) | (show R _ _ _ (_ :: _) _ _ _ _; refine R_op (by simp (maxSteps := 2000000) [f1, f2, w1]; with_reducible rfl) ?_) | (show R _ _ _ [] _ _ _ _; refine R_nil (by simp; with_reducible rfl) ?_) | (show W _ (.seq (.cond _ _ _) _) _ _; first | refine W_ct (by first | (simp [f1, f2, w1]; done) | fail) ?_ | refine W_cf (by first | (simp [f1, f2, w1]; done) | fail) ?_) | refine W_skip ?_ | refine W_bl (c := .seq _ _) ?_ | refine W_bl (c := .region _ _) ?_ | refine W_bl (c := .cond _ _ _) ?_ | refine W_bl (c := .block _ _) ?_ | refine W_rt ?_ | refine W_ex ?_ | refine W_end ?_ | refine W_tail (a := .region _ _) ?_ | refine W_tail (a := .cond _ _ _) ?_ | refine W_tail (a := .ret) ?_ | refine W_tail (a := .exit _) ?_ | refine W_tail (a := .block _ _) ?_ | refine QB_normal ?_ | refine QB_exit ?_ | refine QB_ret ?_ | refine QB_out (by decide) ?_ | refine QL_next ?_ | refine QL_exit ?_ | refine QL_ret ?_ | refine QL_out (by decide) ?_ | (show Fin _ _ .ret _; exact Fin_ret (by first | (simp [c48]; done) | (simp [c48]; with_reducible rfl))) | (show Fin _ _ .normal _; exact Fin_end (by first | (simp [c48]; done) | (simp [c48]; with_reducible rfl))))
      · have h3 : l.length * 64 ≤ 140737488355328 := by omega
        have h4 : l.length ≤ 140737488355328 := by omega
        refine ⟨false, fb, .own 1 0 l.length, [⟨44, 7, false, enc ePt l, 0⟩], .inl ⟨by simp, 0, by simp⟩, by simp, ?_⟩
        refine F_W T48 ?_
        simp only [c48, c48_b, Lift.start, cPr]
        repeat (first | refine W_assoc ?_ | (show W _ (.seq (.region _ _) _) _ _; refine W_reg (by simp; with_reducible rfl) ?_) | (show R _ _ _ (_ :: _) _ _ _ _; refine R_op (by simp (maxSteps := 2000000) [f1, f2, w1, hl, h3, h4]; with_reducible rfl) ?_) | (show R _ _ _ [] _ _ _ _; refine R_nil (by simp; with_reducible rfl) ?_) | (show W _ (.seq (.cond _ _ _) _) _ _; first | refine W_ct (by first | (simp [f1, f2, w1, hl, h3, h4]; done) | fail) ?_ | refine W_cf (by first | (simp [f1, f2, w1, hl, h3, h4]; done) | fail) ?_) | refine W_skip ?_ | refine W_bl (c := .seq _ _) ?_ | refine W_bl (c := .region _ _) ?_ | refine W_bl (c := .cond _ _ _) ?_ | refine W_bl (c := .block _ _) ?_ | refine W_rt ?_ | refine W_ex ?_ | refine W_end ?_ | refine W_tail (a := .region _ _) ?_ | refine W_tail (a := .cond _ _ _) ?_ | refine W_tail (a := .ret) ?_ | refine W_tail (a := .exit _) ?_ | refine W_tail (a := .block _ _) ?_ | refine QB_normal ?_ | refine QB_exit ?_ | refine QB_ret ?_ | refine QB_out (by decide) ?_ | refine QL_next ?_ | refine QL_exit ?_ | refine QL_ret ?_ | refine QL_out (by decide) ?_ | (show Fin _ _ .ret _; exact Fin_ret (by first | (simp [c48]; done) | (simp [c48]; with_reducible rfl))) | (show Fin _ _ .normal _; exact Fin_end (by first | (simp [c48]; done) | (simp [c48]; with_reducible rfl))))
    · simp only [if_neg h0]
      refine ⟨fa, fb, .ro 7 [] true, [], .inr ⟨rfl, rfl, by first | trivial | rfl⟩, by simp, ?_⟩
      refine F_W T48 ?_
      simp only [c48, c48_b, Lift.start, cPr]
      repeat (first | refine W_assoc ?_ | (show W _ (.seq (.region _ _) _) _ _; refine W_reg (by simp; with_reducible rfl) ?_) | (show R _ _ _ (_ :: _) _ _ _ _; refine R_op (by simp (maxSteps := 2000000) [f1, f2, w1, h0]; with_reducible rfl) ?_) | (show R _ _ _ [] _ _ _ _; refine R_nil (by simp; with_reducible rfl) ?_) | (show W _ (.seq (.cond _ _ _) _) _ _; first | refine W_ct (by first | (simp [f1, f2, w1, h0]; done) | fail) ?_ | refine W_cf (by first | (simp [f1, f2, w1, h0]; done) | fail) ?_) | refine W_skip ?_ | refine W_bl (c := .seq _ _) ?_ | refine W_bl (c := .region _ _) ?_ | refine W_bl (c := .cond _ _ _) ?_ | refine W_bl (c := .block _ _) ?_ | refine W_rt ?_ | refine W_ex ?_ | refine W_end ?_ | refine W_tail (a := .region _ _) ?_ | refine W_tail (a := .cond _ _ _) ?_ | refine W_tail (a := .ret) ?_ | refine W_tail (a := .exit _) ?_ | refine W_tail (a := .block _ _) ?_ | refine QB_normal ?_ | refine QB_exit ?_ | refine QB_ret ?_ | refine QB_out (by decide) ?_ | refine QL_next ?_ | refine QL_exit ?_ | refine QL_ret ?_ | refine QL_out (by decide) ?_ | (show Fin _ _ .ret _; exact Fin_ret (by first | (simp [c48]; done) | (simp [c48]; with_reducible rfl))) | (show Fin _ _ .normal _; exact Fin_end (by first | (simp [c48]; done) | (simp [c48]; with_reducible rfl))))

end Go.Proofs.Ytjpccbjgmogclaa.Link
