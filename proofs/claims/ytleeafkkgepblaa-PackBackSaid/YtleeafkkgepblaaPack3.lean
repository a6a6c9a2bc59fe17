/- Packets: the document's bytes; the law of bytes. -/
import Derived.Test.YtleeafkkgepblaaPack2
set_option linter.all false
set_option linter.unusedSimpArgs false
set_option maxRecDepth 100000
set_option maxHeartbeats 8000000
namespace Go.Proofs.Ytleeafkkgepblaa.Oct
open Go Go.RowKit Go.Proofs.Ytleeafkkgepblaa.Lift Go.Proofs.Ytleeafkkgepblaa.TPB Go.Proofs.Ytleeafkkgepblaa.Base Go.Proofs.Ytleeafkkgepblaa Go.Proofs.Ytleeafkkgepblaa.CrcC

theorem V_works23 : FV (F T) 5 [] = some (.bool true) := by
  have hw : F T 5 [] [] = some (.bool true, []) := F_iff.2 ⟨60, by kernel_rfl⟩
  have h := FV_of hw
  simpa using h

theorem V_of (p : Pk) : FV (F T) 9 [.agg (pk p)] = some (.agg (pk p)) := by
  have hF : F T 9 [.agg (pk p)] [] = some (.agg (pk p), []) := by
    refine F_W T9 ?_
    simp only [c9, c9_b, Lift.start]
    simp only [pk]
    repeat (first | refine W_assoc ?_ | (show W _ (.seq (.region _ _) _) _ _; refine W_reg (by simp; with_reducible rfl) ?_) | (show R _ _ _ (_ :: _) _ _ _ _; refine R_op (by simp (maxSteps := 2000000); with_reducible rfl) ?_) | (show R _ _ _ [] _ _ _ _; refine R_nil (by simp; with_reducible rfl) ?_) | (show W _ (.seq (.cond _ _ _) _) _ _; first | refine W_ct (by first | (simp; done) | fail) ?_ | refine W_cf (by first | (simp; done) | fail) ?_) | refine W_skip ?_ | refine W_bl (c := .seq _ _) ?_ | refine W_bl (c := .region _ _) ?_ | refine W_bl (c := .cond _ _ _) ?_ | refine W_bl (c := .block _ _) ?_ | refine W_rt ?_ | refine W_ex ?_ | refine W_end ?_ | refine W_tail (a := .region _ _) ?_ | refine W_tail (a := .cond _ _ _) ?_ | refine W_tail (a := .ret) ?_ | refine W_tail (a := .exit _) ?_ | refine W_tail (a := .block _ _) ?_ | refine QB_normal ?_ | refine QB_exit ?_ | refine QB_ret ?_ | refine QB_out (by decide) ?_ | refine QL_next ?_ | refine QL_exit ?_ | refine QL_ret ?_ | refine QL_out (by decide) ?_ | (show Fin _ _ .ret _; exact Fin_ret (by first | (simp [c9]; done) | (simp [c9]; with_reducible rfl))) | (show Fin _ _ .normal _; exact Fin_end (by first | (simp [c9]; done) | (simp [c9]; with_reducible rfl))))
  simpa using FV_of hF

end Go.Proofs.Ytleeafkkgepblaa.Oct
