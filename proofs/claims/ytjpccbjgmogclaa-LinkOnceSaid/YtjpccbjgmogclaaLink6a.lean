/- Two ends, and what is under way: any act. -/
import Derived.Test.YtjpccbjgmogclaaLink6
set_option linter.all false
set_option linter.unusedSimpArgs false
set_option maxRecDepth 100000
set_option maxHeartbeats 8000000
namespace Go.Proofs.Ytjpccbjgmogclaa.Link
attribute [-simp] Go.Proofs.Ytjpccbjgmogclaa.Lift.unf1
open Go Go.RowKit Go.Proofs.Ytjpccbjgmogclaa.Lift Go.Proofs.Ytjpccbjgmogclaa.TLK Go.Proofs.Ytjpccbjgmogclaa.Base Go.Proofs.Ytjpccbjgmogclaa Go.Proofs.Ytjpccbjgmogclaa.Sent

theorem does_p0 (P : Pr) (hs : Sm P) (fa fb : Bool) (v0 : Nat) (w : AV) (objs : List AObj) (hw : WF P w objs) (d n : Int) (hd : d = 0) :
    ∃ P' fa' fb' w' objs', DoesR P P' ∧ WF2 P' w' objs' ∧ objs.length ≤ objs'.length ∧ F T 11 [.ref 0 0 0, .agg [.int .i64 d, .int .i64 n]] (oPr fa fb w P v0 :: objs) = some (.tup [], oPr fa' fb' w' P' v0 :: objs') := by
  obtain ⟨fa', fb', w', objs', h1, h2, h3⟩ := puts0 P hs fa fb v0 w objs hw
  have hR : DoesR P (putsP0 P) := .p0
  subst hd
  generalize putsP0 P = P' at *
  unfold WF at h1 hw
  have k0 : IntKind.i64.wrap 0 = 0 := by decide
  have k1 : IntKind.i64.wrap 1 = 1 := by decide
  rcases hw with ⟨rfl, v1, rfl⟩ | ⟨rfl, rfl, hP⟩
  · rcases h1 with ⟨rfl, v2, rfl⟩ | ⟨rfl, rfl, hP'⟩
    · refine ⟨P', fa', fb', .own 1 0 P'.way.length, [⟨44, 7, false, enc ePt P'.way, v2⟩], hR, .inl (.inl ⟨rfl, v2, rfl⟩), by simp, ?_⟩
      simp only [oPr, cPr] at h3 ⊢
      refine F_W T11 ?_
      simp only [c11, c11_b, Lift.start, cPr]
      repeat (first | refine W_assoc ?_ | (show W _ (.seq (.region _ _) _) _ _; refine W_reg (by simp; with_reducible rfl) ?_) | (show R _ _ _ (_ :: _) _ _ _ _; refine R_op (by simp (maxSteps := 2000000) [h3, k0, k1]; with_reducible rfl) ?_) | (show R _ _ _ [] _ _ _ _; refine R_nil (by simp; with_reducible rfl) ?_) | (show W _ (.seq (.cond _ _ _) _) _ _; first | refine W_ct (by first | (simp [h3, k0, k1]; done) | fail) ?_ | refine W_cf (by first | (simp [h3, k0, k1]; done) | fail) ?_) | refine W_skip ?_ | refine W_bl (c := .seq _ _) ?_ | refine W_bl (c := .region _ _) ?_ | refine W_bl (c := .cond _ _ _) ?_ | refine W_bl (c := .block _ _) ?_ | refine W_rt ?_ | refine W_ex ?_ | refine W_end ?_ | refine W_tail (a := .region _ _) ?_ | refine W_tail (a := .cond _ _ _) ?_ | refine W_tail (a := .ret) ?_ | refine W_tail (a := .exit _) ?_ | refine W_tail (a := .block _ _) ?_ | refine QB_normal ?_ | refine QB_exit ?_ | refine QB_ret ?_ | refine QB_out (by decide) ?_ | refine QL_next ?_ | refine QL_exit ?_ | refine QL_ret ?_ | refine QL_out (by decide) ?_ | (show Fin _ _ .ret _; exact Fin_ret (by first | (simp [c11, h3, k0, k1]; done) | (simp [c11, h3, k0, k1]; with_reducible rfl))) | (show Fin _ _ .normal _; exact Fin_end (by first | (simp [c11, h3, k0, k1]; done) | (simp [c11, h3, k0, k1]; with_reducible rfl))))
    · simp at h2
  · rcases h1 with ⟨rfl, v2, rfl⟩ | ⟨rfl, rfl, hP'⟩
    · refine ⟨P', fa', fb', .own 1 0 P'.way.length, [⟨44, 7, false, enc ePt P'.way, 0⟩], hR, .inl (.inl ⟨rfl, 0, rfl⟩), by simp, ?_⟩
      simp only [oPr, cPr] at h3 ⊢
      refine F_W T11 ?_
      simp only [c11, c11_b, Lift.start, cPr]
      repeat (first | refine W_assoc ?_ | (show W _ (.seq (.region _ _) _) _ _; refine W_reg (by simp; with_reducible rfl) ?_) | (show R _ _ _ (_ :: _) _ _ _ _; refine R_op (by simp (maxSteps := 2000000) [h3, k0, k1]; with_reducible rfl) ?_) | (show R _ _ _ [] _ _ _ _; refine R_nil (by simp; with_reducible rfl) ?_) | (show W _ (.seq (.cond _ _ _) _) _ _; first | refine W_ct (by first | (simp [h3, k0, k1]; done) | fail) ?_ | refine W_cf (by first | (simp [h3, k0, k1]; done) | fail) ?_) | refine W_skip ?_ | refine W_bl (c := .seq _ _) ?_ | refine W_bl (c := .region _ _) ?_ | refine W_bl (c := .cond _ _ _) ?_ | refine W_bl (c := .block _ _) ?_ | refine W_rt ?_ | refine W_ex ?_ | refine W_end ?_ | refine W_tail (a := .region _ _) ?_ | refine W_tail (a := .cond _ _ _) ?_ | refine W_tail (a := .ret) ?_ | refine W_tail (a := .exit _) ?_ | refine W_tail (a := .block _ _) ?_ | refine QB_normal ?_ | refine QB_exit ?_ | refine QB_ret ?_ | refine QB_out (by decide) ?_ | refine QL_next ?_ | refine QL_exit ?_ | refine QL_ret ?_ | refine QL_out (by decide) ?_ | (show Fin _ _ .ret _; exact Fin_ret (by first | (simp [c11, h3, k0, k1]; done) | (simp [c11, h3, k0, k1]; with_reducible rfl))) | (show Fin _ _ .normal _; exact Fin_end (by first | (simp [c11, h3, k0, k1]; done) | (simp [c11, h3, k0, k1]; with_reducible rfl))))
    · refine ⟨P', fa', fb', .ro 7 [] true, [], hR, .inl (.inr ⟨rfl, rfl, hP'⟩), by simp, ?_⟩
      simp only [oPr, cPr] at h3 ⊢
      refine F_W T11 ?_
      simp only [c11, c11_b, Lift.start, cPr]
      repeat (first | refine W_assoc ?_ | (show W _ (.seq (.region _ _) _) _ _; refine W_reg (by simp; with_reducible rfl) ?_) | (show R _ _ _ (_ :: _) _ _ _ _; refine R_op (by simp (maxSteps := 2000000) [h3, k0, k1]; with_reducible rfl) ?_) | (show R _ _ _ [] _ _ _ _; refine R_nil (by simp; with_reducible rfl) ?_) | (show W _ (.seq (.cond _ _ _) _) _ _; first | refine W_ct (by first | (simp [h3, k0, k1]; done) | fail) ?_ | refine W_cf (by first | (simp [h3, k0, k1]; done) | fail) ?_) | refine W_skip ?_ | refine W_bl (c := .seq _ _) ?_ | refine W_bl (c := .region _ _) ?_ | refine W_bl (c := .cond _ _ _) ?_ | refine W_bl (c := .block _ _) ?_ | refine W_rt ?_ | refine W_ex ?_ | refine W_end ?_ | refine W_tail (a := .region _ _) ?_ | refine W_tail (a := .cond _ _ _) ?_ | refine W_tail (a := .ret) ?_ | refine W_tail (a := .exit _) ?_ | refine W_tail (a := .block _ _) ?_ | refine QB_normal ?_ | refine QB_exit ?_ | refine QB_ret ?_ | refine QB_out (by decide) ?_ | refine QL_next ?_ | refine QL_exit ?_ | refine QL_ret ?_ | refine QL_out (by decide) ?_ | (show Fin _ _ .ret _; exact Fin_ret (by first | (simp [c11, h3, k0, k1]; done) | (simp [c11, h3, k0, k1]; with_reducible rfl))) | (show Fin _ _ .normal _; exact Fin_end (by first | (simp [c11, h3, k0, k1]; done) | (simp [c11, h3, k0, k1]; with_reducible rfl))))

theorem does_p1 (P : Pr) (hs : Sm P) (fa fb : Bool) (v0 : Nat) (w : AV) (objs : List AObj) (hw : WF P w objs) (d n : Int) (hd : d = 1) :
    ∃ P' fa' fb' w' objs', DoesR P P' ∧ WF2 P' w' objs' ∧ objs.length ≤ objs'.length ∧ F T 11 [.ref 0 0 0, .agg [.int .i64 d, .int .i64 n]] (oPr fa fb w P v0 :: objs) = some (.tup [], oPr fa' fb' w' P' v0 :: objs') := by
  obtain ⟨fa', fb', w', objs', h1, h2, h3⟩ := puts1 P hs fa fb v0 w objs hw
  have hR : DoesR P (putsP1 P) := .p1
  subst hd
  generalize putsP1 P = P' at *
  unfold WF at h1 hw
  have k0 : IntKind.i64.wrap 0 = 0 := by decide
  have k1 : IntKind.i64.wrap 1 = 1 := by decide
  rcases hw with ⟨rfl, v1, rfl⟩ | ⟨rfl, rfl, hP⟩
  · rcases h1 with ⟨rfl, v2, rfl⟩ | ⟨rfl, rfl, hP'⟩
    · refine ⟨P', fa', fb', .own 1 0 P'.way.length, [⟨44, 7, false, enc ePt P'.way, v2⟩], hR, .inl (.inl ⟨rfl, v2, rfl⟩), by simp, ?_⟩
      simp only [oPr, cPr] at h3 ⊢
      refine F_W T11 ?_
      simp only [c11, c11_b, Lift.start, cPr]
      repeat (first | refine W_assoc ?_ | (show W _ (.seq (.region _ _) _) _ _; refine W_reg (by simp; with_reducible rfl) ?_) | (show R _ _ _ (_ :: _) _ _ _ _; refine R_op (by simp (maxSteps := 2000000) [h3, k0, k1]; with_reducible rfl) ?_) | (show R _ _ _ [] _ _ _ _; refine R_nil (by simp; with_reducible rfl) ?_) | (show W _ (.seq (.cond _ _ _) _) _ _; first | refine W_ct (by first | (simp [h3, k0, k1]; done) | fail) ?_ | refine W_cf (by first | (simp [h3, k0, k1]; done) | fail) ?_) | refine W_skip ?_ | refine W_bl (c := .seq _ _) ?_ | refine W_bl (c := .region _ _) ?_ | refine W_bl (c := .cond _ _ _) ?_ | refine W_bl (c := .block _ _) ?_ | refine W_rt ?_ | refine W_ex ?_ | refine W_end ?_ | refine W_tail (a := .region _ _) ?_ | refine W_tail (a := .cond _ _ _) ?_ | refine W_tail (a := .ret) ?_ | refine W_tail (a := .exit _) ?_ | refine W_tail (a := .block _ _) ?_ | refine QB_normal ?_ | refine QB_exit ?_ | refine QB_ret ?_ | refine QB_out (by decide) ?_ | refine QL_next ?_ | refine QL_exit ?_ | refine QL_ret ?_ | refine QL_out (by decide) ?_ | (show Fin _ _ .ret _; exact Fin_ret (by first | (simp [c11, h3, k0, k1]; done) | (simp [c11, h3, k0, k1]; with_reducible rfl))) | (show Fin _ _ .normal _; exact Fin_end (by first | (simp [c11, h3, k0, k1]; done) | (simp [c11, h3, k0, k1]; with_reducible rfl))))
    · simp at h2
  · rcases h1 with ⟨rfl, v2, rfl⟩ | ⟨rfl, rfl, hP'⟩
    · refine ⟨P', fa', fb', .own 1 0 P'.way.length, [⟨44, 7, false, enc ePt P'.way, 0⟩], hR, .inl (.inl ⟨rfl, 0, rfl⟩), by simp, ?_⟩
      simp only [oPr, cPr] at h3 ⊢
      refine F_W T11 ?_
      simp only [c11, c11_b, Lift.start, cPr]
      repeat (first | refine W_assoc ?_ | (show W _ (.seq (.region _ _) _) _ _; refine W_reg (by simp; with_reducible rfl) ?_) | (show R _ _ _ (_ :: _) _ _ _ _; refine R_op (by simp (maxSteps := 2000000) [h3, k0, k1]; with_reducible rfl) ?_) | (show R _ _ _ [] _ _ _ _; refine R_nil (by simp; with_reducible rfl) ?_) | (show W _ (.seq (.cond _ _ _) _) _ _; first | refine W_ct (by first | (simp [h3, k0, k1]; done) | fail) ?_ | refine W_cf (by first | (simp [h3, k0, k1]; done) | fail) ?_) | refine W_skip ?_ | refine W_bl (c := .seq _ _) ?_ | refine W_bl (c := .region _ _) ?_ | refine W_bl (c := .cond _ _ _) ?_ | refine W_bl (c := .block _ _) ?_ | refine W_rt ?_ | refine W_ex ?_ | refine W_end ?_ | refine W_tail (a := .region _ _) ?_ | refine W_tail (a := .cond _ _ _) ?_ | refine W_tail (a := .ret) ?_ | refine W_tail (a := .exit _) ?_ | refine W_tail (a := .block _ _) ?_ | refine QB_normal ?_ | refine QB_exit ?_ | refine QB_ret ?_ | refine QB_out (by decide) ?_ | refine QL_next ?_ | refine QL_exit ?_ | refine QL_ret ?_ | refine QL_out (by decide) ?_ | (show Fin _ _ .ret _; exact Fin_ret (by first | (simp [c11, h3, k0, k1]; done) | (simp [c11, h3, k0, k1]; with_reducible rfl))) | (show Fin _ _ .normal _; exact Fin_end (by first | (simp [c11, h3, k0, k1]; done) | (simp [c11, h3, k0, k1]; with_reducible rfl))))
    · refine ⟨P', fa', fb', .ro 7 [] true, [], hR, .inl (.inr ⟨rfl, rfl, hP'⟩), by simp, ?_⟩
      simp only [oPr, cPr] at h3 ⊢
      refine F_W T11 ?_
      simp only [c11, c11_b, Lift.start, cPr]
      repeat (first | refine W_assoc ?_ | (show W _ (.seq (.region _ _) _) _ _; refine W_reg (by simp; with_reducible rfl) ?_) | (show R _ _ _ (_ :: _) _ _ _ _; refine R_op (by simp (maxSteps := 2000000) [h3, k0, k1]; with_reducible rfl) ?_) | (show R _ _ _ [] _ _ _ _; refine R_nil (by simp; with_reducible rfl) ?_) | (show W _ (.seq (.cond _ _ _) _) _ _; first | refine W_ct (by first | (simp [h3, k0, k1]; done) | fail) ?_ | refine W_cf (by first | (simp [h3, k0, k1]; done) | fail) ?_) | refine W_skip ?_ | refine W_bl (c := .seq _ _) ?_ | refine W_bl (c := .region _ _) ?_ | refine W_bl (c := .cond _ _ _) ?_ | refine W_bl (c := .block _ _) ?_ | refine W_rt ?_ | refine W_ex ?_ | refine W_end ?_ | refine W_tail (a := .region _ _) ?_ | refine W_tail (a := .cond _ _ _) ?_ | refine W_tail (a := .ret) ?_ | refine W_tail (a := .exit _) ?_ | refine W_tail (a := .block _ _) ?_ | refine QB_normal ?_ | refine QB_exit ?_ | refine QB_ret ?_ | refine QB_out (by decide) ?_ | refine QL_next ?_ | refine QL_exit ?_ | refine QL_ret ?_ | refine QL_out (by decide) ?_ | (show Fin _ _ .ret _; exact Fin_ret (by first | (simp [c11, h3, k0, k1]; done) | (simp [c11, h3, k0, k1]; with_reducible rfl))) | (show Fin _ _ .normal _; exact Fin_end (by first | (simp [c11, h3, k0, k1]; done) | (simp [c11, h3, k0, k1]; with_reducible rfl))))

theorem does_t0 (P : Pr) (hs : Sm P) (fa fb : Bool) (v0 : Nat) (w : AV) (objs : List AObj) (hw : WF P w objs) (d n : Int) (hd : d = 2) :
    ∃ P' fa' fb' w' objs', DoesR P P' ∧ WF2 P' w' objs' ∧ objs.length ≤ objs'.length ∧ F T 11 [.ref 0 0 0, .agg [.int .i64 d, .int .i64 n]] (oPr fa fb w P v0 :: objs) = some (.tup [], oPr fa' fb' w' P' v0 :: objs') := by
  obtain ⟨fa', fb', w', objs', h1, h2, h3⟩ := ticks0 P hs fa fb v0 w objs hw
  have hR : DoesR P (ticksP0 P) := .t0
  subst hd
  generalize ticksP0 P = P' at *
  unfold WF at h1 hw
  have k0 : IntKind.i64.wrap 0 = 0 := by decide
  have k1 : IntKind.i64.wrap 1 = 1 := by decide
  rcases hw with ⟨rfl, v1, rfl⟩ | ⟨rfl, rfl, hP⟩
  · rcases h1 with ⟨rfl, v2, rfl⟩ | ⟨rfl, rfl, hP'⟩
    · refine ⟨P', fa', fb', .own 1 0 P'.way.length, [⟨44, 7, false, enc ePt P'.way, v2⟩], hR, .inl (.inl ⟨rfl, v2, rfl⟩), by simp, ?_⟩
      simp only [oPr, cPr] at h3 ⊢
      refine F_W T11 ?_
      simp only [c11, c11_b, Lift.start, cPr]
      repeat (first | refine W_assoc ?_ | (show W _ (.seq (.region _ _) _) _ _; refine W_reg (by simp; with_reducible rfl) ?_) | (show R _ _ _ (_ :: _) _ _ _ _; refine R_op (by simp (maxSteps := 2000000) [h3, k0, k1]; with_reducible rfl) ?_) | (show R _ _ _ [] _ _ _ _; refine R_nil (by simp; with_reducible rfl) ?_) | (show W _ (.seq (.cond _ _ _) _) _ _; first | refine W_ct (by first | (simp [h3, k0, k1]; done) | fail) ?_ | refine W_cf (by first | (simp [h3, k0, k1]; done) | fail) ?_) | refine W_skip ?_ | refine W_bl (c := .seq _ _) ?_ | refine W_bl (c := .region _ _) ?_ | refine W_bl (c := .cond _ _ _) ?_ | refine W_bl (c := .block _ _) ?_ | refine W_rt ?_ | refine W_ex ?_ | refine W_end ?_ | refine W_tail (a := .region _ _) ?_ | refine W_tail (a := .cond _ _ _) ?_ | refine W_tail (a := .ret) ?_ | refine W_tail (a := .exit _) ?_ | refine W_tail (a := .block _ _) ?_ | refine QB_normal ?_ | refine QB_exit ?_ | refine QB_ret ?_ | refine QB_out (by decide) ?_ | refine QL_next ?_ | refine QL_exit ?_ | refine QL_ret ?_ | refine QL_out (by decide) ?_ | (show Fin _ _ .ret _; exact Fin_ret (by first | (simp [c11, h3, k0, k1]; done) | (simp [c11, h3, k0, k1]; with_reducible rfl))) | (show Fin _ _ .normal _; exact Fin_end (by first | (simp [c11, h3, k0, k1]; done) | (simp [c11, h3, k0, k1]; with_reducible rfl))))
    · simp at h2
  · rcases h1 with ⟨rfl, v2, rfl⟩ | ⟨rfl, rfl, hP'⟩
    · refine ⟨P', fa', fb', .own 1 0 P'.way.length, [⟨44, 7, false, enc ePt P'.way, 0⟩], hR, .inl (.inl ⟨rfl, 0, rfl⟩), by simp, ?_⟩
      simp only [oPr, cPr] at h3 ⊢
      refine F_W T11 ?_
      simp only [c11, c11_b, Lift.start, cPr]
      repeat (first | refine W_assoc ?_ | (show W _ (.seq (.region _ _) _) _ _; refine W_reg (by simp; with_reducible rfl) ?_) | (show R _ _ _ (_ :: _) _ _ _ _; refine R_op (by simp (maxSteps := 2000000) [h3, k0, k1]; with_reducible rfl) ?_) | (show R _ _ _ [] _ _ _ _; refine R_nil (by simp; with_reducible rfl) ?_) | (show W _ (.seq (.cond _ _ _) _) _ _; first | refine W_ct (by first | (simp [h3, k0, k1]; done) | fail) ?_ | refine W_cf (by first | (simp [h3, k0, k1]; done) | fail) ?_) | refine W_skip ?_ | refine W_bl (c := .seq _ _) ?_ | refine W_bl (c := .region _ _) ?_ | refine W_bl (c := .cond _ _ _) ?_ | refine W_bl (c := .block _ _) ?_ | refine W_rt ?_ | refine W_ex ?_ | refine W_end ?_ | refine W_tail (a := .region _ _) ?_ | refine W_tail (a := .cond _ _ _) ?_ | refine W_tail (a := .ret) ?_ | refine W_tail (a := .exit _) ?_ | refine W_tail (a := .block _ _) ?_ | refine QB_normal ?_ | refine QB_exit ?_ | refine QB_ret ?_ | refine QB_out (by decide) ?_ | refine QL_next ?_ | refine QL_exit ?_ | refine QL_ret ?_ | refine QL_out (by decide) ?_ | (show Fin _ _ .ret _; exact Fin_ret (by first | (simp [c11, h3, k0, k1]; done) | (simp [c11, h3, k0, k1]; with_reducible rfl))) | (show Fin _ _ .normal _; exact Fin_end (by first | (simp [c11, h3, k0, k1]; done) | (simp [c11, h3, k0, k1]; with_reducible rfl))))
    · refine ⟨P', fa', fb', .ro 7 [] true, [], hR, .inl (.inr ⟨rfl, rfl, hP'⟩), by simp, ?_⟩
      simp only [oPr, cPr] at h3 ⊢
      refine F_W T11 ?_
      simp only [c11, c11_b, Lift.start, cPr]
      repeat (first | refine W_assoc ?_ | (show W _ (.seq (.region _ _) _) _ _; refine W_reg (by simp; with_reducible rfl) ?_) | (show R _ _ _ (_ :: _) _ _ _ _; refine R_op (by simp (maxSteps := 2000000) [h3, k0, k1]; with_reducible rfl) ?_) | (show R _ _ _ [] _ _ _ _; refine R_nil (by simp; with_reducible rfl) ?_) | (show W _ (.seq (.cond _ _ _) _) _ _; first | refine W_ct (by first | (simp [h3, k0, k1]; done) | fail) ?_ | refine W_cf (by first | (simp [h3, k0, k1]; done) | fail) ?_) | refine W_skip ?_ | refine W_bl (c := .seq _ _) ?_ | refine W_bl (c := .region _ _) ?_ | refine W_bl (c := .cond _ _ _) ?_ | refine W_bl (c := .block _ _) ?_ | refine W_rt ?_ | refine W_ex ?_ | refine W_end ?_ | refine W_tail (a := .region _ _) ?_ | refine W_tail (a := .cond _ _ _) ?_ | refine W_tail (a := .ret) ?_ | refine W_tail (a := .exit _) ?_ | refine W_tail (a := .block _ _) ?_ | refine QB_normal ?_ | refine QB_exit ?_ | refine QB_ret ?_ | refine QB_out (by decide) ?_ | refine QL_next ?_ | refine QL_exit ?_ | refine QL_ret ?_ | refine QL_out (by decide) ?_ | (show Fin _ _ .ret _; exact Fin_ret (by first | (simp [c11, h3, k0, k1]; done) | (simp [c11, h3, k0, k1]; with_reducible rfl))) | (show Fin _ _ .normal _; exact Fin_end (by first | (simp [c11, h3, k0, k1]; done) | (simp [c11, h3, k0, k1]; with_reducible rfl))))

theorem does_t1 (P : Pr) (hs : Sm P) (fa fb : Bool) (v0 : Nat) (w : AV) (objs : List AObj) (hw : WF P w objs) (d n : Int) (hd : d = 3) :
    ∃ P' fa' fb' w' objs', DoesR P P' ∧ WF2 P' w' objs' ∧ objs.length ≤ objs'.length ∧ F T 11 [.ref 0 0 0, .agg [.int .i64 d, .int .i64 n]] (oPr fa fb w P v0 :: objs) = some (.tup [], oPr fa' fb' w' P' v0 :: objs') := by
  obtain ⟨fa', fb', w', objs', h1, h2, h3⟩ := ticks1 P hs fa fb v0 w objs hw
  have hR : DoesR P (ticksP1 P) := .t1
  subst hd
  generalize ticksP1 P = P' at *
  unfold WF at h1 hw
  have k0 : IntKind.i64.wrap 0 = 0 := by decide
  have k1 : IntKind.i64.wrap 1 = 1 := by decide
  rcases hw with ⟨rfl, v1, rfl⟩ | ⟨rfl, rfl, hP⟩
  · rcases h1 with ⟨rfl, v2, rfl⟩ | ⟨rfl, rfl, hP'⟩
    · refine ⟨P', fa', fb', .own 1 0 P'.way.length, [⟨44, 7, false, enc ePt P'.way, v2⟩], hR, .inl (.inl ⟨rfl, v2, rfl⟩), by simp, ?_⟩
      simp only [oPr, cPr] at h3 ⊢
      refine F_W T11 ?_
      simp only [c11, c11_b, Lift.start, cPr]
      repeat (first | refine W_assoc ?_ | (show W _ (.seq (.region _ _) _) _ _; refine W_reg (by simp; with_reducible rfl) ?_) | (show R _ _ _ (_ :: _) _ _ _ _; refine R_op (by simp (maxSteps := 2000000) [h3, k0, k1]; with_reducible rfl) ?_) | (show R _ _ _ [] _ _ _ _; refine R_nil (by simp; with_reducible rfl) ?_) | (show W _ (.seq (.cond _ _ _) _) _ _; first | refine W_ct (by first | (simp [h3, k0, k1]; done) | fail) ?_ | refine W_cf (by first | (simp [h3, k0, k1]; done) | fail) ?_) | refine W_skip ?_ | refine W_bl (c := .seq _ _) ?_ | refine W_bl (c := .region _ _) ?_ | refine W_bl (c := .cond _ _ _) ?_ | refine W_bl (c := .block _ _) ?_ | refine W_rt ?_ | refine W_ex ?_ | refine W_end ?_ | refine W_tail (a := .region _ _) ?_ | refine W_tail (a := .cond _ _ _) ?_ | refine W_tail (a := .ret) ?_ | refine W_tail (a := .exit _) ?_ | refine W_tail (a := .block _ _) ?_ | refine QB_normal ?_ | refine QB_exit ?_ | refine QB_ret ?_ | refine QB_out (by decide) ?_ | refine QL_next ?_ | refine QL_exit ?_ | refine QL_ret ?_ | refine QL_out (by decide) ?_ | (show Fin _ _ .ret _; exact Fin_ret (by first | (simp [c11, h3, k0, k1]; done) | (simp [c11, h3, k0, k1]; with_reducible rfl))) | (show Fin _ _ .normal _; exact Fin_end (by first | (simp [c11, h3, k0, k1]; done) | (simp [c11, h3, k0, k1]; with_reducible rfl))))
    · simp at h2
  · rcases h1 with ⟨rfl, v2, rfl⟩ | ⟨rfl, rfl, hP'⟩
    · refine ⟨P', fa', fb', .own 1 0 P'.way.length, [⟨44, 7, false, enc ePt P'.way, 0⟩], hR, .inl (.inl ⟨rfl, 0, rfl⟩), by simp, ?_⟩
      simp only [oPr, cPr] at h3 ⊢
      refine F_W T11 ?_
      simp only [c11, c11_b, Lift.start, cPr]
      repeat (first | refine W_assoc ?_ | (show W _ (.seq (.region _ _) _) _ _; refine W_reg (by simp; with_reducible rfl) ?_) | (show R _ _ _ (_ :: _) _ _ _ _; refine R_op (by simp (maxSteps := 2000000) [h3, k0, k1]; with_reducible rfl) ?_) | (show R _ _ _ [] _ _ _ _; refine R_nil (by simp; with_reducible rfl) ?_) | (show W _ (.seq (.cond _ _ _) _) _ _; first | refine W_ct (by first | (simp [h3, k0, k1]; done) | fail) ?_ | refine W_cf (by first | (simp [h3, k0, k1]; done) | fail) ?_) | refine W_skip ?_ | refine W_bl (c := .seq _ _) ?_ | refine W_bl (c := .region _ _) ?_ | refine W_bl (c := .cond _ _ _) ?_ | refine W_bl (c := .block _ _) ?_ | refine W_rt ?_ | refine W_ex ?_ | refine W_end ?_ | refine W_tail (a := .region _ _) ?_ | refine W_tail (a := .cond _ _ _) ?_ | refine W_tail (a := .ret) ?_ | refine W_tail (a := .exit _) ?_ | refine W_tail (a := .block _ _) ?_ | refine QB_normal ?_ | refine QB_exit ?_ | refine QB_ret ?_ | refine QB_out (by decide) ?_ | refine QL_next ?_ | refine QL_exit ?_ | refine QL_ret ?_ | refine QL_out (by decide) ?_ | (show Fin _ _ .ret _; exact Fin_ret (by first | (simp [c11, h3, k0, k1]; done) | (simp [c11, h3, k0, k1]; with_reducible rfl))) | (show Fin _ _ .normal _; exact Fin_end (by first | (simp [c11, h3, k0, k1]; done) | (simp [c11, h3, k0, k1]; with_reducible rfl))))
    · refine ⟨P', fa', fb', .ro 7 [] true, [], hR, .inl (.inr ⟨rfl, rfl, hP'⟩), by simp, ?_⟩
      simp only [oPr, cPr] at h3 ⊢
      refine F_W T11 ?_
      simp only [c11, c11_b, Lift.start, cPr]
      repeat (first | refine W_assoc ?_ | (show W _ (.seq (.region _ _) _) _ _; refine W_reg (by simp; with_reducible rfl) ?_) | (show R _ _ _ (_ :: _) _ _ _ _; refine R_op (by simp (maxSteps := 2000000) [h3, k0, k1]; with_reducible rfl) ?_) | (show R _ _ _ [] _ _ _ _; refine R_nil (by simp; with_reducible rfl) ?_) | (show W _ (.seq (.cond _ _ _) _) _ _; first | refine W_ct (by first | (simp [h3, k0, k1]; done) | fail) ?_ | refine W_cf (by first | (simp [h3, k0, k1]; done) | fail) ?_) | refine W_skip ?_ | refine W_bl (c := .seq _ _) ?_ | refine W_bl (c := .region _ _) ?_ | refine W_bl (c := .cond _ _ _) ?_ | refine W_bl (c := .block _ _) ?_ | refine W_rt ?_ | refine W_ex ?_ | refine W_end ?_ | refine W_tail (a := .region _ _) ?_ | refine W_tail (a := .cond _ _ _) ?_ | refine W_tail (a := .ret) ?_ | refine W_tail (a := .exit _) ?_ | refine W_tail (a := .block _ _) ?_ | refine QB_normal ?_ | refine QB_exit ?_ | refine QB_ret ?_ | refine QB_out (by decide) ?_ | refine QL_next ?_ | refine QL_exit ?_ | refine QL_ret ?_ | refine QL_out (by decide) ?_ | (show Fin _ _ .ret _; exact Fin_ret (by first | (simp [c11, h3, k0, k1]; done) | (simp [c11, h3, k0, k1]; with_reducible rfl))) | (show Fin _ _ .normal _; exact Fin_end (by first | (simp [c11, h3, k0, k1]; done) | (simp [c11, h3, k0, k1]; with_reducible rfl))))

theorem does_none (P : Pr) (hs : Sm P) (fa fb : Bool) (v0 : Nat) (w : AV) (objs : List AObj) (hw : WF P w objs) (d n : Int) (hd0 : ¬ d = 0) (hd1 : ¬ d = 1) (hd2 : ¬ d = 2) (hd3 : ¬ d = 3) (hem : P.way = []) :
    ∃ P' fa' fb' w' objs', DoesR P P' ∧ WF2 P' w' objs' ∧ objs.length ≤ objs'.length ∧ F T 11 [.ref 0 0 0, .agg [.int .i64 d, .int .i64 n]] (oPr fa fb w P v0 :: objs) = some (.tup [], oPr fa' fb' w' P' v0 :: objs') := by
  refine ⟨P, fa, fb, w, objs, .no, .inl hw, Nat.le_refl _, ?_⟩
  obtain ⟨a, b, way, p0, p1, c0, c1⟩ := P
  simp only [] at hem
  subst hem
  unfold WF at hw
  rcases hw with ⟨rfl, v1, rfl⟩ | ⟨rfl, rfl, hP⟩
  · simp only [oPr, cPr]
    by_cases h0 : 0 ≤ d
    · have h1 : ¬ d < 2 := by omega
      refine F_W T11 ?_
      simp only [c11, c11_b, Lift.start, cPr]
      repeat (first | refine W_assoc ?_ | (show W _ (.seq (.region _ _) _) _ _; refine W_reg (by simp; with_reducible rfl) ?_) | (show R _ _ _ (_ :: _) _ _ _ _; refine R_op (by simp (maxSteps := 2000000) [h0, h1, hd2, hd3]; with_reducible rfl) ?_) | (show R _ _ _ [] _ _ _ _; refine R_nil (by simp; with_reducible rfl) ?_) | (show W _ (.seq (.cond _ _ _) _) _ _; first | refine W_ct (by first | (simp [h0, h1, hd2, hd3]; done) | fail) ?_ | refine W_cf (by first | (simp [h0, h1, hd2, hd3]; done) | fail) ?_) | refine W_skip ?_ | refine W_bl (c := .seq _ _) ?_ | refine W_bl (c := .region _ _) ?_ | refine W_bl (c := .cond _ _ _) ?_ | refine W_bl (c := .block _ _) ?_ | refine W_rt ?_ | refine W_ex ?_ | refine W_end ?_ | refine W_tail (a := .region _ _) ?_ | refine W_tail (a := .cond _ _ _) ?_ | refine W_tail (a := .ret) ?_ | refine W_tail (a := .exit _) ?_ | refine W_tail (a := .block _ _) ?_ | refine QB_normal ?_ | refine QB_exit ?_ | refine QB_ret ?_ | refine QB_out (by decide) ?_ | refine QL_next ?_ | refine QL_exit ?_ | refine QL_ret ?_ | refine QL_out (by decide) ?_ | (show Fin _ _ .ret _; exact Fin_ret (by first | (simp [c11, h0, h1, hd2, hd3]; done) | (simp [c11, h0, h1, hd2, hd3]; with_reducible rfl))) | (show Fin _ _ .normal _; exact Fin_end (by first | (simp [c11, h0, h1, hd2, hd3]; done) | (simp [c11, h0, h1, hd2, hd3]; with_reducible rfl))))
    · 
      refine F_W T11 ?_
      simp only [c11, c11_b, Lift.start, cPr]
      repeat (first | refine W_assoc ?_ | (show W _ (.seq (.region _ _) _) _ _; refine W_reg (by simp; with_reducible rfl) ?_) | (show R _ _ _ (_ :: _) _ _ _ _; refine R_op (by simp (maxSteps := 2000000) [h0, hd2, hd3]; with_reducible rfl) ?_) | (show R _ _ _ [] _ _ _ _; refine R_nil (by simp; with_reducible rfl) ?_) | (show W _ (.seq (.cond _ _ _) _) _ _; first | refine W_ct (by first | (simp [h0, hd2, hd3]; done) | fail) ?_ | refine W_cf (by first | (simp [h0, hd2, hd3]; done) | fail) ?_) | refine W_skip ?_ | refine W_bl (c := .seq _ _) ?_ | refine W_bl (c := .region _ _) ?_ | refine W_bl (c := .cond _ _ _) ?_ | refine W_bl (c := .block _ _) ?_ | refine W_rt ?_ | refine W_ex ?_ | refine W_end ?_ | refine W_tail (a := .region _ _) ?_ | refine W_tail (a := .cond _ _ _) ?_ | refine W_tail (a := .ret) ?_ | refine W_tail (a := .exit _) ?_ | refine W_tail (a := .block _ _) ?_ | refine QB_normal ?_ | refine QB_exit ?_ | refine QB_ret ?_ | refine QB_out (by decide) ?_ | refine QL_next ?_ | refine QL_exit ?_ | refine QL_ret ?_ | refine QL_out (by decide) ?_ | (show Fin _ _ .ret _; exact Fin_ret (by first | (simp [c11, h0, hd2, hd3]; done) | (simp [c11, h0, hd2, hd3]; with_reducible rfl))) | (show Fin _ _ .normal _; exact Fin_end (by first | (simp [c11, h0, hd2, hd3]; done) | (simp [c11, h0, hd2, hd3]; with_reducible rfl))))
  · simp only [oPr, cPr]
    by_cases h0 : 0 ≤ d
    · have h1 : ¬ d < 2 := by omega
      refine F_W T11 ?_
      simp only [c11, c11_b, Lift.start, cPr]
      repeat (first | refine W_assoc ?_ | (show W _ (.seq (.region _ _) _) _ _; refine W_reg (by simp; with_reducible rfl) ?_) | (show R _ _ _ (_ :: _) _ _ _ _; refine R_op (by simp (maxSteps := 2000000) [h0, h1, hd2, hd3]; with_reducible rfl) ?_) | (show R _ _ _ [] _ _ _ _; refine R_nil (by simp; with_reducible rfl) ?_) | (show W _ (.seq (.cond _ _ _) _) _ _; first | refine W_ct (by first | (simp [h0, h1, hd2, hd3]; done) | fail) ?_ | refine W_cf (by first | (simp [h0, h1, hd2, hd3]; done) | fail) ?_) | refine W_skip ?_ | refine W_bl (c := .seq _ _) ?_ | refine W_bl (c := .region _ _) ?_ | refine W_bl (c := .cond _ _ _) ?_ | refine W_bl (c := .block _ _) ?_ | refine W_rt ?_ | refine W_ex ?_ | refine W_end ?_ | refine W_tail (a := .region _ _) ?_ | refine W_tail (a := .cond _ _ _) ?_ | refine W_tail (a := .ret) ?_ | refine W_tail (a := .exit _) ?_ | refine W_tail (a := .block _ _) ?_ | refine QB_normal ?_ | refine QB_exit ?_ | refine QB_ret ?_ | refine QB_out (by decide) ?_ | refine QL_next ?_ | refine QL_exit ?_ | refine QL_ret ?_ | refine QL_out (by decide) ?_ | (show Fin _ _ .ret _; exact Fin_ret (by first | (simp [c11, h0, h1, hd2, hd3]; done) | (simp [c11, h0, h1, hd2, hd3]; with_reducible rfl))) | (show Fin _ _ .normal _; exact Fin_end (by first | (simp [c11, h0, h1, hd2, hd3]; done) | (simp [c11, h0, h1, hd2, hd3]; with_reducible rfl))))
    · 
      refine F_W T11 ?_
      simp only [c11, c11_b, Lift.start, cPr]
      repeat (first | refine W_assoc ?_ | (show W _ (.seq (.region _ _) _) _ _; refine W_reg (by simp; with_reducible rfl) ?_) | (show R _ _ _ (_ :: _) _ _ _ _; refine R_op (by simp (maxSteps := 2000000) [h0, hd2, hd3]; with_reducible rfl) ?_) | (show R _ _ _ [] _ _ _ _; refine R_nil (by simp; with_reducible rfl) ?_) | (show W _ (.seq (.cond _ _ _) _) _ _; first | refine W_ct (by first | (simp [h0, hd2, hd3]; done) | fail) ?_ | refine W_cf (by first | (simp [h0, hd2, hd3]; done) | fail) ?_) | refine W_skip ?_ | refine W_bl (c := .seq _ _) ?_ | refine W_bl (c := .region _ _) ?_ | refine W_bl (c := .cond _ _ _) ?_ | refine W_bl (c := .block _ _) ?_ | refine W_rt ?_ | refine W_ex ?_ | refine W_end ?_ | refine W_tail (a := .region _ _) ?_ | refine W_tail (a := .cond _ _ _) ?_ | refine W_tail (a := .ret) ?_ | refine W_tail (a := .exit _) ?_ | refine W_tail (a := .block _ _) ?_ | refine QB_normal ?_ | refine QB_exit ?_ | refine QB_ret ?_ | refine QB_out (by decide) ?_ | refine QL_next ?_ | refine QL_exit ?_ | refine QL_ret ?_ | refine QL_out (by decide) ?_ | (show Fin _ _ .ret _; exact Fin_ret (by first | (simp [c11, h0, hd2, hd3]; done) | (simp [c11, h0, hd2, hd3]; with_reducible rfl))) | (show Fin _ _ .normal _; exact Fin_end (by first | (simp [c11, h0, hd2, hd3]; done) | (simp [c11, h0, hd2, hd3]; with_reducible rfl))))

end Go.Proofs.Ytjpccbjgmogclaa.Link
