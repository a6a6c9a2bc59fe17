/- Two ends, and what is under way: any act. -/
import Derived.Test.YtjpccbjgmogclaaLink6
set_option linter.all false
set_option linter.unusedSimpArgs false
set_option maxRecDepth 100000
set_option maxHeartbeats 8000000
namespace Go.Proofs.Ytjpccbjgmogclaa.Link
attribute [-simp] Go.Proofs.Ytjpccbjgmogclaa.Lift.unf1
open Go Go.RowKit Go.Proofs.Ytjpccbjgmogclaa.Lift Go.Proofs.Ytjpccbjgmogclaa.TLK Go.Proofs.Ytjpccbjgmogclaa.Base Go.Proofs.Ytjpccbjgmogclaa Go.Proofs.Ytjpccbjgmogclaa.Sent

theorem does_keep (P : Pr) (hs : Sm P) (fa fb : Bool) (v0 : Nat) (w : AV) (objs : List AObj) (hw : WF P w objs) (d n : Int) (hd0 : ¬ d = 0) (hd1 : ¬ d = 1) (hd2 : ¬ d = 2) (hd3 : ¬ d = 3) (hd4 : ¬ d = 4) (hd5 : ¬ d = 5) (hne : ¬ P.way = []) (hg : Due P) :
    ∃ P' fa' fb' w' objs', DoesR P P' ∧ WF2 P' w' objs' ∧ objs.length ≤ objs'.length ∧ F T 11 [.ref 0 0 0, .agg [.int .i64 d, .int .i64 n]] (oPr fa fb w P v0 :: objs) = some (.tup [], oPr fa' fb' w' P' v0 :: objs') := by
  have k1u : IntKind.u64.wrap 1 = 1 := by decide
  have kw0 : IntKind.i64.wrap 0 = 0 := by decide
  have kw1 : IntKind.i64.wrap 1 = 1 := by decide
  obtain ⟨i, hi, hpk⟩ := pick n P.way.length (List.length_pos_iff.2 hne) (by have := hs.w; omega)
  have hwl := hs.w
  have hi' : (i : Int) < P.way.length := by omega
  have w1 : IntKind.u64.wrap (P.way.length : Int) = P.way.length := (wrap_u64 _).2 (by omega) (by omega)
  have w2 : IntKind.i64.wrap (i : Int) = i := wrap_i64 _ (by omega) (by omega)
  have w3 : IntKind.i64.wrap ((i : Int) + 1) = (i : Int) + 1 := by rw [wrap_i64 _ (by omega) (by omega)]
  have w4 : (i : Int) + 1 ≤ P.way.length := by omega
  have w5 : (0 : Int) ≤ (i : Int) + 1 := by omega
  have w6 : ((i : Int) + 1).toNat = i + 1 := by omega
  have hl0 : ¬ P.way.length = 0 := by omega
  have hl0' : ¬ (P.way.length : Int) = 0 := by omega
  have hle : ((i + 1 : Nat) : Int) ≤ P.way.length := by omega
  have hle2 : i + 1 ≤ P.way.length := by omega
  have hle3 : (i : Int) ≤ P.way.length := by omega
  have hle4 : i ≤ P.way.length := by omega
  have hmem : P.way[i] ∈ P.way := List.getElem_mem hi
  have hdue := hg _ hmem
  have hlen := takE_len
  unfold WF at hw
  rcases hw with ⟨rfl, v1, rfl⟩ | ⟨rfl, rfl, hP⟩
  · have hdd : (0 ≤ d ∧ ¬ d < 2) ∨ ¬ 0 ≤ d := by omega
    by_cases hs4 : P.way.length < 400
    · have hs4' : (P.way.length : Int) < 400 := by omega
      have key : ∃ fa' fb' w' objs', WF (comesP P P.way[i]) w' objs' ∧ 1 ≤ objs'.length ∧ F T 13 [.ref 0 0 0, .agg (ePt P.way[i])] [oPr fa fb (.own 1 0 P.way.length) P v0, ⟨44, 7, false, enc ePt P.way, v1⟩] = some (.tup [], oPr fa' fb' w' (comesP P P.way[i]) v0 :: objs') := by
        unfold comesP
        by_cases ht : P.way[i].to = 0
        · rw [if_pos ht]; exact comes0 P hs fa fb v0 v1 _ ht (hdue.1 ht) (by have := hlen P.a P.way[i]; omega)
        · rw [if_neg ht]; exact comes1 P hs fa fb v0 v1 _ ht (hdue.2 ht) (by have := hlen P.b P.way[i]; omega)
      obtain ⟨fa', fb', w', objs', c1, c2, c3⟩ := key
      have hR : DoesR P (comesP P P.way[i]) := .come _ hmem
      generalize comesP P P.way[i] = P' at *
      unfold WF at c1
      rcases c1 with ⟨rfl, v2, rfl⟩ | ⟨rfl, rfl, _⟩
      · refine ⟨P', fa', fb', .own 1 0 P'.way.length, [⟨44, 7, false, enc ePt P'.way, v2⟩], hR, .inl (.inl ⟨rfl, v2, rfl⟩), by simp, ?_⟩
        simp only [oPr, cPr, ePt] at c3 ⊢
        rcases hdd with ⟨h0, h1⟩ | h0
        · refine F_W T11 ?_
          simp only [c11, c11_b, Lift.start]
          repeat (first | refine W_assoc ?_ | (show W _ (.seq (.region _ _) _) _ _; refine W_reg (by simp; with_reducible rfl) ?_) | (show R _ _ _ (_ :: _) _ _ _ _; refine R_op (by simp (maxSteps := 2000000) [k1u, kw0, kw1, hne, hpk, hi, hi', w1, w2, w3, w4, w5, w6, hl0, hl0', hle, hle2, hle3, hle4, hs4, hs4', c3, h0, h1, hd2, hd3, hd4, hd5]; with_reducible rfl) ?_) | (show R _ _ _ [] _ _ _ _; refine R_nil (by simp; with_reducible rfl) ?_) | (show W _ (.seq (.cond _ _ _) _) _ _; first | refine W_ct (by first | (simp [k1u, kw0, kw1, hne, hpk, hi, hi', w1, w2, w3, w4, w5, w6, hl0, hl0', hle, hle2, hle3, hle4, hs4, hs4', c3, h0, h1, hd2, hd3, hd4, hd5]; done) | fail) ?_ | refine W_cf (by first | (simp [k1u, kw0, kw1, hne, hpk, hi, hi', w1, w2, w3, w4, w5, w6, hl0, hl0', hle, hle2, hle3, hle4, hs4, hs4', c3, h0, h1, hd2, hd3, hd4, hd5]; done) | fail) ?_) | refine W_skip ?_ | refine W_bl (c := .seq _ _) ?_ | refine W_bl (c := .region _ _) ?_ | refine W_bl (c := .cond _ _ _) ?_ | refine W_bl (c := .block _ _) ?_ | refine W_rt ?_ | refine W_ex ?_ | refine W_end ?_ | refine W_tail (a := .region _ _) ?_ | refine W_tail (a := .cond _ _ _) ?_ | refine W_tail (a := .ret) ?_ | refine W_tail (a := .exit _) ?_ | refine W_tail (a := .block _ _) ?_ | refine QB_normal ?_ | refine QB_exit ?_ | refine QB_ret ?_ | refine QB_out (by decide) ?_ | refine QL_next ?_ | refine QL_exit ?_ | refine QL_ret ?_ | refine QL_out (by decide) ?_ | (show Fin _ _ .ret _; exact Fin_ret (by first | (simp [c11]; done) | (simp [c11]; with_reducible rfl))) | (show Fin _ _ .normal _; exact Fin_end (by first | (simp [c11]; done) | (simp [c11]; with_reducible rfl))))
        · refine F_W T11 ?_
          simp only [c11, c11_b, Lift.start]
          repeat (first | refine W_assoc ?_ | (show W _ (.seq (.region _ _) _) _ _; refine W_reg (by simp; with_reducible rfl) ?_) | (show R _ _ _ (_ :: _) _ _ _ _; refine R_op (by simp (maxSteps := 2000000) [k1u, kw0, kw1, hne, hpk, hi, hi', w1, w2, w3, w4, w5, w6, hl0, hl0', hle, hle2, hle3, hle4, hs4, hs4', c3, h0, hd2, hd3, hd4, hd5]; with_reducible rfl) ?_) | (show R _ _ _ [] _ _ _ _; refine R_nil (by simp; with_reducible rfl) ?_) | (show W _ (.seq (.cond _ _ _) _) _ _; first | refine W_ct (by first | (simp [k1u, kw0, kw1, hne, hpk, hi, hi', w1, w2, w3, w4, w5, w6, hl0, hl0', hle, hle2, hle3, hle4, hs4, hs4', c3, h0, hd2, hd3, hd4, hd5]; done) | fail) ?_ | refine W_cf (by first | (simp [k1u, kw0, kw1, hne, hpk, hi, hi', w1, w2, w3, w4, w5, w6, hl0, hl0', hle, hle2, hle3, hle4, hs4, hs4', c3, h0, hd2, hd3, hd4, hd5]; done) | fail) ?_) | refine W_skip ?_ | refine W_bl (c := .seq _ _) ?_ | refine W_bl (c := .region _ _) ?_ | refine W_bl (c := .cond _ _ _) ?_ | refine W_bl (c := .block _ _) ?_ | refine W_rt ?_ | refine W_ex ?_ | refine W_end ?_ | refine W_tail (a := .region _ _) ?_ | refine W_tail (a := .cond _ _ _) ?_ | refine W_tail (a := .ret) ?_ | refine W_tail (a := .exit _) ?_ | refine W_tail (a := .block _ _) ?_ | refine QB_normal ?_ | refine QB_exit ?_ | refine QB_ret ?_ | refine QB_out (by decide) ?_ | refine QL_next ?_ | refine QL_exit ?_ | refine QL_ret ?_ | refine QL_out (by decide) ?_ | (show Fin _ _ .ret _; exact Fin_ret (by first | (simp [c11]; done) | (simp [c11]; with_reducible rfl))) | (show Fin _ _ .normal _; exact Fin_end (by first | (simp [c11]; done) | (simp [c11]; with_reducible rfl))))
      · simp at c2
    · have hs4' : ¬ (P.way.length : Int) < 400 := by omega
      refine ⟨P, fa, fb, .own 1 0 P.way.length, [⟨44, 7, false, enc ePt P.way, v1⟩], .no, .inl (.inl ⟨rfl, v1, rfl⟩), by simp, ?_⟩
      simp only [oPr, cPr]
      rcases hdd with ⟨h0, h1⟩ | h0
      · refine F_W T11 ?_
        simp only [c11, c11_b, Lift.start]
        repeat (first | refine W_assoc ?_ | (show W _ (.seq (.region _ _) _) _ _; refine W_reg (by simp; with_reducible rfl) ?_) | (show R _ _ _ (_ :: _) _ _ _ _; refine R_op (by simp (maxSteps := 2000000) [k1u, kw0, kw1, hne, hpk, hi, hi', w1, w2, w3, w4, w5, w6, hl0, hl0', hle, hle2, hle3, hle4, hs4, hs4', h0, h1, hd2, hd3, hd4, hd5]; with_reducible rfl) ?_) | (show R _ _ _ [] _ _ _ _; refine R_nil (by simp; with_reducible rfl) ?_) | (show W _ (.seq (.cond _ _ _) _) _ _; first | refine W_ct (by first | (simp [k1u, kw0, kw1, hne, hpk, hi, hi', w1, w2, w3, w4, w5, w6, hl0, hl0', hle, hle2, hle3, hle4, hs4, hs4', h0, h1, hd2, hd3, hd4, hd5]; done) | fail) ?_ | refine W_cf (by first | (simp [k1u, kw0, kw1, hne, hpk, hi, hi', w1, w2, w3, w4, w5, w6, hl0, hl0', hle, hle2, hle3, hle4, hs4, hs4', h0, h1, hd2, hd3, hd4, hd5]; done) | fail) ?_) | refine W_skip ?_ | refine W_bl (c := .seq _ _) ?_ | refine W_bl (c := .region _ _) ?_ | refine W_bl (c := .cond _ _ _) ?_ | refine W_bl (c := .block _ _) ?_ | refine W_rt ?_ | refine W_ex ?_ | refine W_end ?_ | refine W_tail (a := .region _ _) ?_ | refine W_tail (a := .cond _ _ _) ?_ | refine W_tail (a := .ret) ?_ | refine W_tail (a := .exit _) ?_ | refine W_tail (a := .block _ _) ?_ | refine QB_normal ?_ | refine QB_exit ?_ | refine QB_ret ?_ | refine QB_out (by decide) ?_ | refine QL_next ?_ | refine QL_exit ?_ | refine QL_ret ?_ | refine QL_out (by decide) ?_ | (show Fin _ _ .ret _; exact Fin_ret (by first | (simp [c11]; done) | (simp [c11]; with_reducible rfl))) | (show Fin _ _ .normal _; exact Fin_end (by first | (simp [c11]; done) | (simp [c11]; with_reducible rfl))))
      · refine F_W T11 ?_
        simp only [c11, c11_b, Lift.start]
        repeat (first | refine W_assoc ?_ | (show W _ (.seq (.region _ _) _) _ _; refine W_reg (by simp; with_reducible rfl) ?_) | (show R _ _ _ (_ :: _) _ _ _ _; refine R_op (by simp (maxSteps := 2000000) [k1u, kw0, kw1, hne, hpk, hi, hi', w1, w2, w3, w4, w5, w6, hl0, hl0', hle, hle2, hle3, hle4, hs4, hs4', h0, hd2, hd3, hd4, hd5]; with_reducible rfl) ?_) | (show R _ _ _ [] _ _ _ _; refine R_nil (by simp; with_reducible rfl) ?_) | (show W _ (.seq (.cond _ _ _) _) _ _; first | refine W_ct (by first | (simp [k1u, kw0, kw1, hne, hpk, hi, hi', w1, w2, w3, w4, w5, w6, hl0, hl0', hle, hle2, hle3, hle4, hs4, hs4', h0, hd2, hd3, hd4, hd5]; done) | fail) ?_ | refine W_cf (by first | (simp [k1u, kw0, kw1, hne, hpk, hi, hi', w1, w2, w3, w4, w5, w6, hl0, hl0', hle, hle2, hle3, hle4, hs4, hs4', h0, hd2, hd3, hd4, hd5]; done) | fail) ?_) | refine W_skip ?_ | refine W_bl (c := .seq _ _) ?_ | refine W_bl (c := .region _ _) ?_ | refine W_bl (c := .cond _ _ _) ?_ | refine W_bl (c := .block _ _) ?_ | refine W_rt ?_ | refine W_ex ?_ | refine W_end ?_ | refine W_tail (a := .region _ _) ?_ | refine W_tail (a := .cond _ _ _) ?_ | refine W_tail (a := .ret) ?_ | refine W_tail (a := .exit _) ?_ | refine W_tail (a := .block _ _) ?_ | refine QB_normal ?_ | refine QB_exit ?_ | refine QB_ret ?_ | refine QB_out (by decide) ?_ | refine QL_next ?_ | refine QL_exit ?_ | refine QL_ret ?_ | refine QL_out (by decide) ?_ | (show Fin _ _ .ret _; exact Fin_ret (by first | (simp [c11]; done) | (simp [c11]; with_reducible rfl))) | (show Fin _ _ .normal _; exact Fin_end (by first | (simp [c11]; done) | (simp [c11]; with_reducible rfl))))
  · exact absurd hP hne

end Go.Proofs.Ytjpccbjgmogclaa.Link
