/- Two ends, and what is under way: any act. -/
import Derived.Test.YtjpccbjgmogclaaLink6
set_option linter.all false
set_option linter.unusedSimpArgs false
set_option maxRecDepth 100000
set_option maxHeartbeats 8000000
namespace Go.Proofs.Ytjpccbjgmogclaa.Link
attribute [-simp] Go.Proofs.Ytjpccbjgmogclaa.Lift.unf1
open Go Go.RowKit Go.Proofs.Ytjpccbjgmogclaa.Lift Go.Proofs.Ytjpccbjgmogclaa.TLK Go.Proofs.Ytjpccbjgmogclaa.Base Go.Proofs.Ytjpccbjgmogclaa Go.Proofs.Ytjpccbjgmogclaa.Sent

theorem does_lost (P : Pr) (hs : Sm P) (fa fb : Bool) (v0 : Nat) (w : AV) (objs : List AObj) (hw : WF P w objs) (d n : Int) (hd : d = 5) (hne : ¬ P.way = []) :
    ∃ P' fa' fb' w' objs', DoesR P P' ∧ WF2 P' w' objs' ∧ objs.length ≤ objs'.length ∧ F T 11 [.ref 0 0 0, .agg [.int .i64 d, .int .i64 n]] (oPr fa fb w P v0 :: objs) = some (.tup [], oPr fa' fb' w' P' v0 :: objs') := by
  have k1u : IntKind.u64.wrap 1 = 1 := by decide
  have kw0 : IntKind.i64.wrap 0 = 0 := by decide
  have kw1 : IntKind.i64.wrap 1 = 1 := by decide
  obtain ⟨i, hi, hpk⟩ := pick n P.way.length (List.length_pos_iff.2 hne) (by have := hs.w; omega)
  have hwl := hs.w
  have hi' : (i : Int) < P.way.length := by omega
  have w1 : IntKind.u64.wrap (P.way.length : Int) = P.way.length := (wrap_u64 _).2 (by omega) (by omega)
  have w2 : IntKind.i64.wrap (i : Int) = i := wrap_i64 _ (by omega) (by omega)
  have w3 : IntKind.i64.wrap ((i : Int) + 1) = (i : Int) + 1 := by rw [wrap_i64 _ (by omega) (by omega)]
  have w4 : (i : Int) + 1 ≤ P.way.length := by omega
  have w5 : (0 : Int) ≤ (i : Int) + 1 := by omega
  have w6 : ((i : Int) + 1).toNat = i + 1 := by omega
  have hl0 : ¬ P.way.length = 0 := by omega
  have hl0' : ¬ (P.way.length : Int) = 0 := by omega
  have hle : ((i + 1 : Nat) : Int) ≤ P.way.length := by omega
  have hle2 : i + 1 ≤ P.way.length := by omega
  have hle3 : (i : Int) ≤ P.way.length := by omega
  have hle4 : i ≤ P.way.length := by omega
  have hT : (P.way.drop (i + 1)).take (P.way.length - (i + 1)) = P.way.drop (i + 1) := List.take_of_length_le (by simp)
  have hTT : (P.way.take i).take i = P.way.take i := by rw [List.take_take, Nat.min_self]
  have hM : min i P.way.length = i := Nat.min_eq_left hle4
  have g1 : i * 64 ≤ 140737488355328 := by omega
  have g2 : i ≤ 140737488355328 := by omega
  have g3 : (i + (P.way.length - (i + 1))) * 64 ≤ 140737488355328 := by omega
  have g4 : i + (P.way.length - (i + 1)) ≤ 140737488355328 := by omega
  have hcl : (cut P i).way.length = i + (P.way.length - (i + 1)) := by unfold cut; simp; omega
  subst hd
  unfold WF at hw
  rcases hw with ⟨rfl, v1, rfl⟩ | ⟨rfl, rfl, hP⟩
  · refine ⟨cut P i, fa, fb, .own 2 0 (i + (P.way.length - (i + 1))), [⟨44, 7, false, enc ePt P.way, v1⟩, ⟨44, 7, false, enc ePt (P.way.take i ++ P.way.drop (i + 1)), 0⟩], .lost i hi, .inr ⟨P.way, v1, 0, by rw [hcl], rfl⟩, by simp, ?_⟩
    clear hcl
    obtain ⟨a, b, way, p0, p1, c0, c1⟩ := P
    simp only [cut, oPr] at hpk hi hwl hi' w1 w4 hl0 hl0' hle hle2 hle3 hle4 hT hTT hM g3 g4 hne ⊢
    by_cases hz : i = 0
    · subst hz
      have hp1 : (0 : Int) < way.length := by omega
      have hp2 : 0 < way.length := by omega
      have hp3 : (1 : Int) ≤ way.length := by omega
      have hp4 : 1 ≤ way.length := by omega
      have g5 : (way.length - 1) * 64 ≤ 140737488355328 := by omega
      have g6 : way.length - 1 ≤ 140737488355328 := by omega
      have g7 : way.length ≤ 140737488355328 + 1 := by omega
      by_cases hu : way.length = 1
      · have hu2 : way.drop 1 = [] := List.drop_of_length_le (by omega)
        refine F_W T11 ?_
        simp only [c11, c11_b, Lift.start, cPr]
        repeat (first | refine W_assoc ?_ | (show W _ (.seq (.region _ _) _) _ _; refine W_reg (by simp; with_reducible rfl) ?_) | (show R _ _ _ (_ :: _) _ _ _ _; refine R_op (by simp (maxSteps := 2000000) [k1u, kw0, kw1, hne, hpk, hi, hi', w1, w2, w3, w4, w5, w6, hl0, hl0', hle, hle2, hle3, hle4, hT, hTT, hM, g1, g2, g3, g4, hu, hu2, hp1, hp2, hp3, hp4, g5, g6, g7]; with_reducible rfl) ?_) | (show R _ _ _ [] _ _ _ _; refine R_nil (by simp; with_reducible rfl) ?_) | (show W _ (.seq (.cond _ _ _) _) _ _; first | refine W_ct (by first | (simp [k1u, kw0, kw1, hne, hpk, hi, hi', w1, w2, w3, w4, w5, w6, hl0, hl0', hle, hle2, hle3, hle4, hT, hTT, hM, g1, g2, g3, g4, hu, hu2, hp1, hp2, hp3, hp4, g5, g6, g7]; done) | fail) ?_ | refine W_cf (by first | (simp [k1u, kw0, kw1, hne, hpk, hi, hi', w1, w2, w3, w4, w5, w6, hl0, hl0', hle, hle2, hle3, hle4, hT, hTT, hM, g1, g2, g3, g4, hu, hu2, hp1, hp2, hp3, hp4, g5, g6, g7]; done) | fail) ?_) | refine W_skip ?_ | refine W_bl (c := .seq _ _) ?_ | refine W_bl (c := .region _ _) ?_ | refine W_bl (c := .cond _ _ _) ?_ | refine W_bl (c := .block _ _) ?_ | refine W_rt ?_ | refine W_ex ?_ | refine W_end ?_ | refine W_tail (a := .region _ _) ?_ | refine W_tail (a := .cond _ _ _) ?_ | refine W_tail (a := .ret) ?_ | refine W_tail (a := .exit _) ?_ | refine W_tail (a := .block _ _) ?_ | refine QB_normal ?_ | refine QB_exit ?_ | refine QB_ret ?_ | refine QB_out (by decide) ?_ | refine QL_next ?_ | refine QL_exit ?_ | refine QL_ret ?_ | refine QL_out (by decide) ?_ | (show Fin _ _ .ret _; exact Fin_ret (by first | (simp [c11, k1u, kw0, kw1, hne, hpk, hi, hi', w1, w2, w3, w4, w5, w6, hl0, hl0', hle, hle2, hle3, hle4, hT, hTT, hM, g1, g2, g3, g4, hu, hu2, hp1, hp2, hp3, hp4, g5, g6, g7]; done) | (simp [c11, k1u, kw0, kw1, hne, hpk, hi, hi', w1, w2, w3, w4, w5, w6, hl0, hl0', hle, hle2, hle3, hle4, hT, hTT, hM, g1, g2, g3, g4, hu, hu2, hp1, hp2, hp3, hp4, g5, g6, g7]; with_reducible rfl))) | (show Fin _ _ .normal _; exact Fin_end (by first | (simp [c11, k1u, kw0, kw1, hne, hpk, hi, hi', w1, w2, w3, w4, w5, w6, hl0, hl0', hle, hle2, hle3, hle4, hT, hTT, hM, g1, g2, g3, g4, hu, hu2, hp1, hp2, hp3, hp4, g5, g6, g7]; done) | (simp [c11, k1u, kw0, kw1, hne, hpk, hi, hi', w1, w2, w3, w4, w5, w6, hl0, hl0', hle, hle2, hle3, hle4, hT, hTT, hM, g1, g2, g3, g4, hu, hu2, hp1, hp2, hp3, hp4, g5, g6, g7]; with_reducible rfl))))
      · have hu2 : ¬ way.drop 1 = [] := by intro e; have := congrArg List.length e; simp at this; omega
        have hu3 : ¬ way.length ≤ 1 := by omega
        have hu4 : 1 < way.length := by omega
        have hu5 : ¬ way.length - 1 = 0 := by omega
        have hu6 : ¬ way.length - 1 ≤ 0 := by omega
        refine F_W T11 ?_
        simp only [c11, c11_b, Lift.start, cPr]
        repeat (first | refine W_assoc ?_ | (show W _ (.seq (.region _ _) _) _ _; refine W_reg (by simp; with_reducible rfl) ?_) | (show R _ _ _ (_ :: _) _ _ _ _; refine R_op (by simp (maxSteps := 2000000) [k1u, kw0, kw1, hne, hpk, hi, hi', w1, w2, w3, w4, w5, w6, hl0, hl0', hle, hle2, hle3, hle4, hT, hTT, hM, g1, g2, g3, g4, hu, hu2, hu3, hu4, hu5, hu6, hp1, hp2, hp3, hp4, g5, g6, g7]; with_reducible rfl) ?_) | (show R _ _ _ [] _ _ _ _; refine R_nil (by simp; with_reducible rfl) ?_) | (show W _ (.seq (.cond _ _ _) _) _ _; first | refine W_ct (by first | (simp [k1u, kw0, kw1, hne, hpk, hi, hi', w1, w2, w3, w4, w5, w6, hl0, hl0', hle, hle2, hle3, hle4, hT, hTT, hM, g1, g2, g3, g4, hu, hu2, hu3, hu4, hu5, hu6, hp1, hp2, hp3, hp4, g5, g6, g7]; done) | fail) ?_ | refine W_cf (by first | (simp [k1u, kw0, kw1, hne, hpk, hi, hi', w1, w2, w3, w4, w5, w6, hl0, hl0', hle, hle2, hle3, hle4, hT, hTT, hM, g1, g2, g3, g4, hu, hu2, hu3, hu4, hu5, hu6, hp1, hp2, hp3, hp4, g5, g6, g7]; done) | fail) ?_) | refine W_skip ?_ | refine W_bl (c := .seq _ _) ?_ | refine W_bl (c := .region _ _) ?_ | refine W_bl (c := .cond _ _ _) ?_ | refine W_bl (c := .block _ _) ?_ | refine W_rt ?_ | refine W_ex ?_ | refine W_end ?_ | refine W_tail (a := .region _ _) ?_ | refine W_tail (a := .cond _ _ _) ?_ | refine W_tail (a := .ret) ?_ | refine W_tail (a := .exit _) ?_ | refine W_tail (a := .block _ _) ?_ | refine QB_normal ?_ | refine QB_exit ?_ | refine QB_ret ?_ | refine QB_out (by decide) ?_ | refine QL_next ?_ | refine QL_exit ?_ | refine QL_ret ?_ | refine QL_out (by decide) ?_ | (show Fin _ _ .ret _; exact Fin_ret (by first | (simp [c11, k1u, kw0, kw1, hne, hpk, hi, hi', w1, w2, w3, w4, w5, w6, hl0, hl0', hle, hle2, hle3, hle4, hT, hTT, hM, g1, g2, g3, g4, hu, hu2, hu3, hu4, hu5, hu6, hp1, hp2, hp3, hp4, g5, g6, g7]; done) | (simp [c11, k1u, kw0, kw1, hne, hpk, hi, hi', w1, w2, w3, w4, w5, w6, hl0, hl0', hle, hle2, hle3, hle4, hT, hTT, hM, g1, g2, g3, g4, hu, hu2, hu3, hu4, hu5, hu6, hp1, hp2, hp3, hp4, g5, g6, g7]; with_reducible rfl))) | (show Fin _ _ .normal _; exact Fin_end (by first | (simp [c11, k1u, kw0, kw1, hne, hpk, hi, hi', w1, w2, w3, w4, w5, w6, hl0, hl0', hle, hle2, hle3, hle4, hT, hTT, hM, g1, g2, g3, g4, hu, hu2, hu3, hu4, hu5, hu6, hp1, hp2, hp3, hp4, g5, g6, g7]; done) | (simp [c11, k1u, kw0, kw1, hne, hpk, hi, hi', w1, w2, w3, w4, w5, w6, hl0, hl0', hle, hle2, hle3, hle4, hT, hTT, hM, g1, g2, g3, g4, hu, hu2, hu3, hu4, hu5, hu6, hp1, hp2, hp3, hp4, g5, g6, g7]; with_reducible rfl))))
    · have hz0 : 0 < i := by omega
      have ht : ¬ way.take i = [] := by intro e; have := congrArg List.length e; rw [List.length_take, List.length_nil, hM] at this; omega
      by_cases hu : way.length = i + 1
      · have hu2 : way.drop (i + 1) = [] := List.drop_of_length_le (by omega)
        have hu3 : way.length - (i + 1) = 0 := by omega
        refine F_W T11 ?_
        simp only [c11, c11_b, Lift.start, cPr]
        repeat (first | refine W_assoc ?_ | (show W _ (.seq (.region _ _) _) _ _; refine W_reg (by simp; with_reducible rfl) ?_) | (show R _ _ _ (_ :: _) _ _ _ _; refine R_op (by simp (maxSteps := 2000000) [k1u, kw0, kw1, hne, hpk, hi, hi', w1, w2, w3, w4, w5, w6, hl0, hl0', hle, hle2, hle3, hle4, hT, hTT, hM, g1, g2, g3, g4, hz, hz0, ht, hu2, hu3]; with_reducible rfl) ?_) | (show R _ _ _ [] _ _ _ _; refine R_nil (by simp; with_reducible rfl) ?_) | (show W _ (.seq (.cond _ _ _) _) _ _; first | refine W_ct (by first | (simp [k1u, kw0, kw1, hne, hpk, hi, hi', w1, w2, w3, w4, w5, w6, hl0, hl0', hle, hle2, hle3, hle4, hT, hTT, hM, g1, g2, g3, g4, hz, hz0, ht, hu2, hu3]; done) | fail) ?_ | refine W_cf (by first | (simp [k1u, kw0, kw1, hne, hpk, hi, hi', w1, w2, w3, w4, w5, w6, hl0, hl0', hle, hle2, hle3, hle4, hT, hTT, hM, g1, g2, g3, g4, hz, hz0, ht, hu2, hu3]; done) | fail) ?_) | refine W_skip ?_ | refine W_bl (c := .seq _ _) ?_ | refine W_bl (c := .region _ _) ?_ | refine W_bl (c := .cond _ _ _) ?_ | refine W_bl (c := .block _ _) ?_ | refine W_rt ?_ | refine W_ex ?_ | refine W_end ?_ | refine W_tail (a := .region _ _) ?_ | refine W_tail (a := .cond _ _ _) ?_ | refine W_tail (a := .ret) ?_ | refine W_tail (a := .exit _) ?_ | refine W_tail (a := .block _ _) ?_ | refine QB_normal ?_ | refine QB_exit ?_ | refine QB_ret ?_ | refine QB_out (by decide) ?_ | refine QL_next ?_ | refine QL_exit ?_ | refine QL_ret ?_ | refine QL_out (by decide) ?_ | (show Fin _ _ .ret _; exact Fin_ret (by first | (simp [c11, k1u, kw0, kw1, hne, hpk, hi, hi', w1, w2, w3, w4, w5, w6, hl0, hl0', hle, hle2, hle3, hle4, hT, hTT, hM, g1, g2, g3, g4, hz, hz0, ht, hu2, hu3]; done) | (simp [c11, k1u, kw0, kw1, hne, hpk, hi, hi', w1, w2, w3, w4, w5, w6, hl0, hl0', hle, hle2, hle3, hle4, hT, hTT, hM, g1, g2, g3, g4, hz, hz0, ht, hu2, hu3]; with_reducible rfl))) | (show Fin _ _ .normal _; exact Fin_end (by first | (simp [c11, k1u, kw0, kw1, hne, hpk, hi, hi', w1, w2, w3, w4, w5, w6, hl0, hl0', hle, hle2, hle3, hle4, hT, hTT, hM, g1, g2, g3, g4, hz, hz0, ht, hu2, hu3]; done) | (simp [c11, k1u, kw0, kw1, hne, hpk, hi, hi', w1, w2, w3, w4, w5, w6, hl0, hl0', hle, hle2, hle3, hle4, hT, hTT, hM, g1, g2, g3, g4, hz, hz0, ht, hu2, hu3]; with_reducible rfl))))
      · have hu2 : ¬ way.drop (i + 1) = [] := by intro e; have := congrArg List.length e; simp at this; omega
        have hu3 : ¬ i + (way.length - (i + 1)) ≤ i := by omega
        have hu4 : ¬ way.length ≤ i + 1 := by omega
        refine F_W T11 ?_
        simp only [c11, c11_b, Lift.start, cPr]
        repeat (first | refine W_assoc ?_ | (show W _ (.seq (.region _ _) _) _ _; refine W_reg (by simp; with_reducible rfl) ?_) | (show R _ _ _ (_ :: _) _ _ _ _; refine R_op (by simp (maxSteps := 2000000) [k1u, kw0, kw1, hne, hpk, hi, hi', w1, w2, w3, w4, w5, w6, hl0, hl0', hle, hle2, hle3, hle4, hT, hTT, hM, g1, g2, g3, g4, hz, hz0, ht, hu2, hu3, hu4]; with_reducible rfl) ?_) | (show R _ _ _ [] _ _ _ _; refine R_nil (by simp; with_reducible rfl) ?_) | (show W _ (.seq (.cond _ _ _) _) _ _; first | refine W_ct (by first | (simp [k1u, kw0, kw1, hne, hpk, hi, hi', w1, w2, w3, w4, w5, w6, hl0, hl0', hle, hle2, hle3, hle4, hT, hTT, hM, g1, g2, g3, g4, hz, hz0, ht, hu2, hu3, hu4]; done) | fail) ?_ | refine W_cf (by first | (simp [k1u, kw0, kw1, hne, hpk, hi, hi', w1, w2, w3, w4, w5, w6, hl0, hl0', hle, hle2, hle3, hle4, hT, hTT, hM, g1, g2, g3, g4, hz, hz0, ht, hu2, hu3, hu4]; done) | fail) ?_) | refine W_skip ?_ | refine W_bl (c := .seq _ _) ?_ | refine W_bl (c := .region _ _) ?_ | refine W_bl (c := .cond _ _ _) ?_ | refine W_bl (c := .block _ _) ?_ | refine W_rt ?_ | refine W_ex ?_ | refine W_end ?_ | refine W_tail (a := .region _ _) ?_ | refine W_tail (a := .cond _ _ _) ?_ | refine W_tail (a := .ret) ?_ | refine W_tail (a := .exit _) ?_ | refine W_tail (a := .block _ _) ?_ | refine QB_normal ?_ | refine QB_exit ?_ | refine QB_ret ?_ | refine QB_out (by decide) ?_ | refine QL_next ?_ | refine QL_exit ?_ | refine QL_ret ?_ | refine QL_out (by decide) ?_ | (show Fin _ _ .ret _; exact Fin_ret (by first | (simp [c11, k1u, kw0, kw1, hne, hpk, hi, hi', w1, w2, w3, w4, w5, w6, hl0, hl0', hle, hle2, hle3, hle4, hT, hTT, hM, g1, g2, g3, g4, hz, hz0, ht, hu2, hu3, hu4]; done) | (simp [c11, k1u, kw0, kw1, hne, hpk, hi, hi', w1, w2, w3, w4, w5, w6, hl0, hl0', hle, hle2, hle3, hle4, hT, hTT, hM, g1, g2, g3, g4, hz, hz0, ht, hu2, hu3, hu4]; with_reducible rfl))) | (show Fin _ _ .normal _; exact Fin_end (by first | (simp [c11, k1u, kw0, kw1, hne, hpk, hi, hi', w1, w2, w3, w4, w5, w6, hl0, hl0', hle, hle2, hle3, hle4, hT, hTT, hM, g1, g2, g3, g4, hz, hz0, ht, hu2, hu3, hu4]; done) | (simp [c11, k1u, kw0, kw1, hne, hpk, hi, hi', w1, w2, w3, w4, w5, w6, hl0, hl0', hle, hle2, hle3, hle4, hT, hTT, hM, g1, g2, g3, g4, hz, hz0, ht, hu2, hu3, hu4]; with_reducible rfl))))
  · exact absurd hP hne

end Go.Proofs.Ytjpccbjgmogclaa.Link
