/- The ear's law, put together. -/
import Derived.Test.YtnobgooojbppbaaBeat2
set_option linter.all false
set_option maxRecDepth 100000
set_option maxHeartbeats 2000000
namespace Go.Proofs.Ytnobgooojbppbaa.Beat
open Go Go.RowKit Go.Proofs.Ytnobgooojbppbaa.Lift Go.Proofs.Ytnobgooojbppbaa.TB Go.Proofs.Ytnobgooojbppbaa.Base

theorem L_beat (l : List Int) (s le a b c : Int) (hl : l.length ≤ maxLen) : F T 3 [.agg [.int .i64 s, .int .i64 le, .ro 1 (enc (eInt .i64) l) false], .agg [.int .i64 a, .int .i64 b, .int .i64 c]] [] = some (.bool true, []) := by
  by_cases hbig : 100 < l.length
  · have hbig2 : (100 : Int) < l.length := by omega
    refine F_W T3 ?_
    simp only [c3, c3_b, Lift.start]
    repeat (first | refine W_assoc ?_ | (show W _ (.seq (.region _ _) _) _ _; refine W_reg (by simp; with_reducible rfl) ?_) | (show R _ _ _ (_ :: _) _ _ _ _; refine R_op (by simp (maxSteps := 2000000) [V_works, hbig2]; with_reducible rfl) ?_) | (show R _ _ _ [] _ _ _ _; refine R_nil (by simp; with_reducible rfl) ?_) | (show W _ (.seq (.cond _ _ _) _) _ _; first | refine W_ct (by first | (simp [V_works, hbig2]; done) | fail) ?_ | refine W_cf (by first | (simp [V_works, hbig2]; done) | fail) ?_) | refine W_skip ?_ | refine W_bl (c := .seq _ _) ?_ | refine W_bl (c := .region _ _) ?_ | refine W_bl (c := .cond _ _ _) ?_ | refine W_bl (c := .block _ _) ?_ | refine W_rt ?_ | refine W_ex ?_ | refine W_end ?_ | refine W_tail (a := .region _ _) ?_ | refine W_tail (a := .cond _ _ _) ?_ | refine W_tail (a := .ret) ?_ | refine W_tail (a := .exit _) ?_ | refine W_tail (a := .block _ _) ?_ | refine QB_normal ?_ | refine QB_exit ?_ | refine QB_ret ?_ | refine QB_out (by decide) ?_ | refine QL_next ?_ | refine QL_exit ?_ | refine QL_ret ?_ | refine QL_out (by decide) ?_ | (show Fin _ _ .ret _; exact Fin_ret (by first | (simp [c3]; done) | (simp [c3]; with_reducible rfl))) | (show Fin _ _ .normal _; exact Fin_end (by first | (simp [c3]; done) | (simp [c3]; with_reducible rfl))))
  · have hbig2 : ¬ (100 : Int) < l.length := by omega
    have hll : l.length ≤ 1000000 := by omega
    have hb : l.length * 8 ≤ 140737488355328 := by omega
    have hb2 : l.length ≤ 140737488355328 := by omega
    have t1 := F_tick l hll s le
    have t2 := FV_of t1
    have u1 := F_hear l hll s le a
    have u2 := FV_of u1
    have v1 := V_rtick l hll s le
    have v2 := V_rhear l hll s le a
    have n1 := V_new a b c
    have n2 := V_rnew a b c
    have hrl := hr_len l a
    have htk : (hr l a).take l.length = hr l a := List.take_of_length_le (by omega)
    have hc : cnt a ≤ 8 := by unfold cnt; omega
    have i1 := FV_of (V_is (l.map (tk le)) (l.map (tk le)) (by simp; omega) (by simp; omega) s le)
    have i2 := FV_of (V_is (hr l a) (hr l a) (by omega) (by omega) s le)
    have i3 := FV_of (V_is (List.replicate (cnt a) 0) (List.replicate (cnt a) 0) (by simp; omega) (by simp; omega) b c)
    have i4 := V_is l l hll hll s le
    have i5 := FV_of i4
    have s1 := F_silent l hll s le a
    have s2 := FV_of s1
    have s3 := FV_of (V_rsilent l hll s le a)
    have m1 := F_same l l hll hll s le
    have m2 := FV_of m1
    have m3 := F_same l (l.map (tk le)) hll (by simp; omega) s le
    have m4 := FV_of m3
    have m5 := FV_of (F_R06_Same l (l.map (tk le)) hll (by simp; omega))
    simp only [decide_true] at i1 i2 i3 i4 i5 m1 m2
    simp [hrl, htk] at t2 u2 i1 i2 i3 i5 s2 s3 m2 m4 m5
    refine F_W T3 ?_
    simp only [c3, c3_b, Lift.start]
    repeat (first | refine W_assoc ?_ | (show W _ (.seq (.region _ _) _) _ _; refine W_reg (by simp; with_reducible rfl) ?_) | (show R _ _ _ (_ :: _) _ _ _ _; refine R_op (by simp (maxSteps := 2000000) [V_works, hbig2, hb, hb2, hrl, htk, t1, t2, u1, u2, v1, v2, n1, n2, i1, i2, i3, i4, i5, s1, s2, s3, m1, m2, m3, m4, m5]; with_reducible rfl) ?_) | (show R _ _ _ [] _ _ _ _; refine R_nil (by simp; with_reducible rfl) ?_) | (show W _ (.seq (.cond _ _ _) _) _ _; first | refine W_ct (by first | (simp [V_works, hbig2, hb, hb2, hrl, htk, t1, t2, u1, u2, v1, v2, n1, n2, i1, i2, i3, i4, i5, s1, s2, s3, m1, m2, m3, m4, m5]; done) | fail) ?_ | refine W_cf (by first | (simp [V_works, hbig2, hb, hb2, hrl, htk, t1, t2, u1, u2, v1, v2, n1, n2, i1, i2, i3, i4, i5, s1, s2, s3, m1, m2, m3, m4, m5]; done) | fail) ?_) | refine W_skip ?_ | refine W_bl (c := .seq _ _) ?_ | refine W_bl (c := .region _ _) ?_ | refine W_bl (c := .cond _ _ _) ?_ | refine W_bl (c := .block _ _) ?_ | refine W_rt ?_ | refine W_ex ?_ | refine W_end ?_ | refine W_tail (a := .region _ _) ?_ | refine W_tail (a := .cond _ _ _) ?_ | refine W_tail (a := .ret) ?_ | refine W_tail (a := .exit _) ?_ | refine W_tail (a := .block _ _) ?_ | refine QB_normal ?_ | refine QB_exit ?_ | refine QB_ret ?_ | refine QB_out (by decide) ?_ | refine QL_next ?_ | refine QL_exit ?_ | refine QL_ret ?_ | refine QL_out (by decide) ?_ | (show Fin _ _ .ret _; exact Fin_ret (by first | (simp [c3]; done) | (simp [c3]; with_reducible rfl))) | (show Fin _ _ .normal _; exact Fin_end (by first | (simp [c3]; done) | (simp [c3]; with_reducible rfl))))
end Go.Proofs.Ytnobgooojbppbaa.Beat
