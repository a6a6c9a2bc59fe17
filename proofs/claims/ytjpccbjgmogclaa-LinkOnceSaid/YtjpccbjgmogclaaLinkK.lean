/- Two ends that both stay: the law. -/
import Derived.Test.YtjpccbjgmogclaaLinkJ
import Derived.Test.YtjpccbjgmogclaaLink6a
import Derived.Test.YtjpccbjgmogclaaLink6b
import Derived.Test.YtjpccbjgmogclaaLink6c
import Derived.Test.YtjpccbjgmogclaaLink6d
set_option linter.all false
set_option linter.unusedSimpArgs false
set_option maxRecDepth 100000
set_option maxHeartbeats 4000000
namespace Go.Proofs.Ytjpccbjgmogclaa.Link
attribute [-simp] Go.Proofs.Ytjpccbjgmogclaa.Lift.unf1
open Go Go.RowKit Go.Proofs.Ytjpccbjgmogclaa.Lift Go.Proofs.Ytjpccbjgmogclaa.TLK Go.Proofs.Ytjpccbjgmogclaa.Base Go.Proofs.Ytjpccbjgmogclaa Go.Proofs.Ytjpccbjgmogclaa.Sent

theorem does (P : Pr) (hs : Sm P) (hg : Due P) (fa fb : Bool) (v0 : Nat) (w : AV) (objs : List AObj) (hw : WF P w objs) (d n : Int) :
    ∃ P' fa' fb' w' objs', DoesR P P' ∧ WF2 P' w' objs' ∧ objs.length ≤ objs'.length ∧ F T 11 [.ref 0 0 0, .agg [.int .i64 d, .int .i64 n]] (oPr fa fb w P v0 :: objs) = some (.tup [], oPr fa' fb' w' P' v0 :: objs') := by
  by_cases h0 : d = 0
  · exact does_p0 P hs fa fb v0 w objs hw d n h0
  by_cases h1 : d = 1
  · exact does_p1 P hs fa fb v0 w objs hw d n h1
  by_cases h2 : d = 2
  · exact does_t0 P hs fa fb v0 w objs hw d n h2
  by_cases h3 : d = 3
  · exact does_t1 P hs fa fb v0 w objs hw d n h3
  by_cases he : P.way = []
  · exact does_none P hs fa fb v0 w objs hw d n h0 h1 h2 h3 he
  by_cases h4 : d = 4
  · exact does_cutc P hs fa fb v0 w objs hw d n h4 he hg
  by_cases h5 : d = 5
  · exact does_lost P hs fa fb v0 w objs hw d n h5 he
  exact does_keep P hs fa fb v0 w objs hw d n h0 h1 h2 h3 h4 h5 he hg

theorem V_works26 : FV (F T) 12 [] = some (.bool true) := by
  have hw : F T 12 [] [] = some (.bool true, []) := F_iff.2 ⟨160, by kernel_rfl⟩
  simpa using FV_of hw

theorem once_loop (l : List P2) :
    ∀ (k i : Nat) (P : Pr) (qa qb : Nat) (fa fb : Bool) (st : ASt), i + k = 200 → i ≤ l.length → Inv P qa qb → P.p0 ≤ i → P.p1 ≤ i → P.way.length ≤ 2 * i →
      (canon [0, 3, 4] st = ⟨[.ro 2 (enc e2 l) false, .top, .top, .ref 0 0 0, .int .i64 i, .top, .top, .top, .top, .top, .top, .top, .top, .top, .top, .top, .top, .top, .top, .top, .top, .top, .top, .top, .top, .top, .top, .top, .top], [(0, oPr fa fb (.own 1 0 P.way.length) P 0), (1, ⟨44, 7, false, enc ePt P.way, 0⟩)], 2, 0⟩ ∨
       (P.way = [] ∧ canon [0, 3, 4] st = ⟨[.ro 2 (enc e2 l) false, .top, .top, .ref 0 0 0, .int .i64 i, .top, .top, .top, .top, .top, .top, .top, .top, .top, .top, .top, .top, .top, .top, .top, .top, .top, .top, .top, .top, .top, .top, .top, .top], [(0, oPr fa fb (.ro 7 [] true) P 0)], 1, 0⟩)) →
      W T c3_k0 st (Lift.Fin c3 (.bool true, [])) := by
  intro k
  induction k with
  | zero =>
    intro i P qa qb fa fb st hi hil I hp0 hp1 hwl hc
    have h200 : ¬ (i : Int) < 200 := by omega
    have h200' : ¬ i < 200 := by omega
    have w5 := V_works26
    unfold c3_k0
    rcases hc with hc | ⟨_, hc⟩
    · simp only [oPr, cPr] at hc
      by_cases hlt : i < l.length
      · have hlt' : (i : Int) < l.length := by omega
        refine W_round hc ?_
        unfold c3_l0
        repeat (first | refine W_assoc ?_ | (show W _ (.seq (.region _ _) _) _ _; refine W_reg (by simp; with_reducible rfl) ?_) | (show R _ _ _ (_ :: _) _ _ _ _; refine R_op (by simp (maxSteps := 2000000) [hlt, hlt', h200, h200', w5]; with_reducible rfl) ?_) | (show R _ _ _ [] _ _ _ _; refine R_nil (by simp; with_reducible rfl) ?_) | (show W _ (.seq (.cond _ _ _) _) _ _; first | refine W_ct (by first | (simp [hlt, hlt', h200, h200', w5]; done) | fail) ?_ | refine W_cf (by first | (simp [hlt, hlt', h200, h200', w5]; done) | fail) ?_) | refine W_skip ?_ | refine W_bl (c := .seq _ _) ?_ | refine W_bl (c := .region _ _) ?_ | refine W_bl (c := .cond _ _ _) ?_ | refine W_bl (c := .block _ _) ?_ | refine W_rt ?_ | refine W_ex ?_ | refine W_end ?_ | refine W_tail (a := .region _ _) ?_ | refine W_tail (a := .cond _ _ _) ?_ | refine W_tail (a := .ret) ?_ | refine W_tail (a := .exit _) ?_ | refine W_tail (a := .block _ _) ?_ | refine QB_normal ?_ | refine QB_exit ?_ | refine QB_ret ?_ | refine QB_out (by decide) ?_ | refine QL_next ?_ | refine QL_exit ?_ | refine QL_ret ?_ | refine QL_out (by decide) ?_ | (show Fin _ _ .ret _; exact Fin_ret (by first | (simp [c3]; done) | (simp [c3]; with_reducible rfl))) | (show Fin _ _ .normal _; exact Fin_end (by first | (simp [c3]; done) | (simp [c3]; with_reducible rfl))))
      · have hlt' : ¬ (i : Int) < l.length := by omega
        refine W_round hc ?_
        unfold c3_l0
        repeat (first | refine W_assoc ?_ | (show W _ (.seq (.region _ _) _) _ _; refine W_reg (by simp; with_reducible rfl) ?_) | (show R _ _ _ (_ :: _) _ _ _ _; refine R_op (by simp (maxSteps := 2000000) [hlt, hlt', h200, h200', w5]; with_reducible rfl) ?_) | (show R _ _ _ [] _ _ _ _; refine R_nil (by simp; with_reducible rfl) ?_) | (show W _ (.seq (.cond _ _ _) _) _ _; first | refine W_ct (by first | (simp [hlt, hlt', h200, h200', w5]; done) | fail) ?_ | refine W_cf (by first | (simp [hlt, hlt', h200, h200', w5]; done) | fail) ?_) | refine W_skip ?_ | refine W_bl (c := .seq _ _) ?_ | refine W_bl (c := .region _ _) ?_ | refine W_bl (c := .cond _ _ _) ?_ | refine W_bl (c := .block _ _) ?_ | refine W_rt ?_ | refine W_ex ?_ | refine W_end ?_ | refine W_tail (a := .region _ _) ?_ | refine W_tail (a := .cond _ _ _) ?_ | refine W_tail (a := .ret) ?_ | refine W_tail (a := .exit _) ?_ | refine W_tail (a := .block _ _) ?_ | refine QB_normal ?_ | refine QB_exit ?_ | refine QB_ret ?_ | refine QB_out (by decide) ?_ | refine QL_next ?_ | refine QL_exit ?_ | refine QL_ret ?_ | refine QL_out (by decide) ?_ | (show Fin _ _ .ret _; exact Fin_ret (by first | (simp [c3]; done) | (simp [c3]; with_reducible rfl))) | (show Fin _ _ .normal _; exact Fin_end (by first | (simp [c3]; done) | (simp [c3]; with_reducible rfl))))
    · simp only [oPr, cPr] at hc
      by_cases hlt : i < l.length
      · have hlt' : (i : Int) < l.length := by omega
        refine W_round hc ?_
        unfold c3_l0
        repeat (first | refine W_assoc ?_ | (show W _ (.seq (.region _ _) _) _ _; refine W_reg (by simp; with_reducible rfl) ?_) | (show R _ _ _ (_ :: _) _ _ _ _; refine R_op (by simp (maxSteps := 2000000) [hlt, hlt', h200, h200', w5]; with_reducible rfl) ?_) | (show R _ _ _ [] _ _ _ _; refine R_nil (by simp; with_reducible rfl) ?_) | (show W _ (.seq (.cond _ _ _) _) _ _; first | refine W_ct (by first | (simp [hlt, hlt', h200, h200', w5]; done) | fail) ?_ | refine W_cf (by first | (simp [hlt, hlt', h200, h200', w5]; done) | fail) ?_) | refine W_skip ?_ | refine W_bl (c := .seq _ _) ?_ | refine W_bl (c := .region _ _) ?_ | refine W_bl (c := .cond _ _ _) ?_ | refine W_bl (c := .block _ _) ?_ | refine W_rt ?_ | refine W_ex ?_ | refine W_end ?_ | refine W_tail (a := .region _ _) ?_ | refine W_tail (a := .cond _ _ _) ?_ | refine W_tail (a := .ret) ?_ | refine W_tail (a := .exit _) ?_ | refine W_tail (a := .block _ _) ?_ | refine QB_normal ?_ | refine QB_exit ?_ | refine QB_ret ?_ | refine QB_out (by decide) ?_ | refine QL_next ?_ | refine QL_exit ?_ | refine QL_ret ?_ | refine QL_out (by decide) ?_ | (show Fin _ _ .ret _; exact Fin_ret (by first | (simp [c3]; done) | (simp [c3]; with_reducible rfl))) | (show Fin _ _ .normal _; exact Fin_end (by first | (simp [c3]; done) | (simp [c3]; with_reducible rfl))))
      · have hlt' : ¬ (i : Int) < l.length := by omega
        refine W_round hc ?_
        unfold c3_l0
        repeat (first | refine W_assoc ?_ | (show W _ (.seq (.region _ _) _) _ _; refine W_reg (by simp; with_reducible rfl) ?_) | (show R _ _ _ (_ :: _) _ _ _ _; refine R_op (by simp (maxSteps := 2000000) [hlt, hlt', h200, h200', w5]; with_reducible rfl) ?_) | (show R _ _ _ [] _ _ _ _; refine R_nil (by simp; with_reducible rfl) ?_) | (show W _ (.seq (.cond _ _ _) _) _ _; first | refine W_ct (by first | (simp [hlt, hlt', h200, h200', w5]; done) | fail) ?_ | refine W_cf (by first | (simp [hlt, hlt', h200, h200', w5]; done) | fail) ?_) | refine W_skip ?_ | refine W_bl (c := .seq _ _) ?_ | refine W_bl (c := .region _ _) ?_ | refine W_bl (c := .cond _ _ _) ?_ | refine W_bl (c := .block _ _) ?_ | refine W_rt ?_ | refine W_ex ?_ | refine W_end ?_ | refine W_tail (a := .region _ _) ?_ | refine W_tail (a := .cond _ _ _) ?_ | refine W_tail (a := .ret) ?_ | refine W_tail (a := .exit _) ?_ | refine W_tail (a := .block _ _) ?_ | refine QB_normal ?_ | refine QB_exit ?_ | refine QB_ret ?_ | refine QB_out (by decide) ?_ | refine QL_next ?_ | refine QL_exit ?_ | refine QL_ret ?_ | refine QL_out (by decide) ?_ | (show Fin _ _ .ret _; exact Fin_ret (by first | (simp [c3]; done) | (simp [c3]; with_reducible rfl))) | (show Fin _ _ .normal _; exact Fin_end (by first | (simp [c3]; done) | (simp [c3]; with_reducible rfl))))
  | succ k ih =>
    intro i P qa qb fa fb st hi hil I hp0 hp1 hwl hc
    have h200 : (i : Int) < 200 := by omega
    have h200' : i < 200 := by omega
    have w5 := V_works26
    by_cases hlt : i < l.length
    · have hlt' : (i : Int) < l.length := by omega
      have hw : IntKind.i64.wrap ((i : Int) + 1) = (i : Int) + 1 := wrap_i64 _ (by omega) (by omega)
      have hs := I.sm (by omega)
      have key : ∀ (P' : Pr), DoesR P P' → ∀ (fa' fb' : Bool) (st' : ASt),
        (canon [0, 3, 4] st' = ⟨[.ro 2 (enc e2 l) false, .top, .top, .ref 0 0 0, .int .i64 ((i + 1 : Nat) : Int), .top, .top, .top, .top, .top, .top, .top, .top, .top, .top, .top, .top, .top, .top, .top, .top, .top, .top, .top, .top, .top, .top, .top, .top], [(0, oPr fa' fb' (.own 1 0 P'.way.length) P' 0), (1, ⟨44, 7, false, enc ePt P'.way, 0⟩)], 2, 0⟩ ∨
         (P'.way = [] ∧ canon [0, 3, 4] st' = ⟨[.ro 2 (enc e2 l) false, .top, .top, .ref 0 0 0, .int .i64 ((i + 1 : Nat) : Int), .top, .top, .top, .top, .top, .top, .top, .top, .top, .top, .top, .top, .top, .top, .top, .top, .top, .top, .top, .top, .top, .top, .top, .top], [(0, oPr fa' fb' (.ro 7 [] true) P' 0)], 1, 0⟩)) → W T c3_k0 st' (Lift.Fin c3 (.bool true, [])) := by
        intro P' hR fa' fb' st' h
        obtain ⟨qa', qb', I'⟩ := I.does (by omega) (by omega) hR
        have hgr := does_grow hR
        exact ih (i + 1) P' qa' qb' fa' fb' st' (by omega) (by omega) I' (by omega) (by omega) (by omega) h
      rcases hc with hc | ⟨hem, hc⟩
      · obtain ⟨P', fa', fb', w', objs', hR, hwf, hlen, hF⟩ := does P hs I.due fa fb 0 _ _ (.inl ⟨rfl, 0, rfl⟩) l[i].1 l[i].2
        have hk := key P' hR fa' fb'
        clear key ih
        unfold WF2 WF at hwf
        unfold c3_k0
        simp only [oPr, cPr] at hc hF hk
        rcases hwf with (⟨rfl, v, rfl⟩ | ⟨rfl, rfl, _⟩) | ⟨x, v, v', rfl, rfl⟩
        · refine W_round hc ?_
          unfold c3_l0
          repeat (first | refine W_assoc ?_ | (show W _ (.seq (.region _ _) _) _ _; refine W_reg (by simp; with_reducible rfl) ?_) | (show R _ _ _ (_ :: _) _ _ _ _; refine R_op (by simp (maxSteps := 2000000) [hlt, hlt', h200, h200', hw, hF]; with_reducible rfl) ?_) | (show R _ _ _ [] _ _ _ _; refine R_nil (by simp; with_reducible rfl) ?_) | (show W _ (.seq (.cond _ _ _) _) _ _; first | refine W_ct (by first | (simp [hlt, hlt', h200, h200', hw, hF]; done) | fail) ?_ | refine W_cf (by first | (simp [hlt, hlt', h200, h200', hw, hF]; done) | fail) ?_) | refine W_skip ?_ | refine W_bl (c := .seq _ _) ?_ | refine W_bl (c := .region _ _) ?_ | refine W_bl (c := .cond _ _ _) ?_ | refine W_bl (c := .block _ _) ?_ | refine W_rt ?_ | refine W_ex ?_ | refine W_end ?_ | refine W_tail (a := .region _ _) ?_ | refine W_tail (a := .cond _ _ _) ?_ | refine W_tail (a := .ret) ?_ | refine W_tail (a := .exit _) ?_ | refine W_tail (a := .block _ _) ?_ | refine QB_normal ?_ | refine QB_exit ?_ | refine QB_ret ?_ | refine QB_out (by decide) ?_ | refine QL_next ?_ | refine QL_exit ?_ | refine QL_ret ?_ | refine QL_out (by decide) ?_ | (show Fin _ _ .ret _; exact Fin_ret (by first | (simp [c3]; done) | (simp [c3]; with_reducible rfl))) | (show Fin _ _ .normal _; exact Fin_end (by first | (simp [c3]; done) | (simp [c3]; with_reducible rfl))))
          exact hk _ (.inl (by simp; try rfl))
        · simp at hlen
        · refine W_round hc ?_
          unfold c3_l0
          repeat (first | refine W_assoc ?_ | (show W _ (.seq (.region _ _) _) _ _; refine W_reg (by simp; with_reducible rfl) ?_) | (show R _ _ _ (_ :: _) _ _ _ _; refine R_op (by simp (maxSteps := 2000000) [hlt, hlt', h200, h200', hw, hF]; with_reducible rfl) ?_) | (show R _ _ _ [] _ _ _ _; refine R_nil (by simp; with_reducible rfl) ?_) | (show W _ (.seq (.cond _ _ _) _) _ _; first | refine W_ct (by first | (simp [hlt, hlt', h200, h200', hw, hF]; done) | fail) ?_ | refine W_cf (by first | (simp [hlt, hlt', h200, h200', hw, hF]; done) | fail) ?_) | refine W_skip ?_ | refine W_bl (c := .seq _ _) ?_ | refine W_bl (c := .region _ _) ?_ | refine W_bl (c := .cond _ _ _) ?_ | refine W_bl (c := .block _ _) ?_ | refine W_rt ?_ | refine W_ex ?_ | refine W_end ?_ | refine W_tail (a := .region _ _) ?_ | refine W_tail (a := .cond _ _ _) ?_ | refine W_tail (a := .ret) ?_ | refine W_tail (a := .exit _) ?_ | refine W_tail (a := .block _ _) ?_ | refine QB_normal ?_ | refine QB_exit ?_ | refine QB_ret ?_ | refine QB_out (by decide) ?_ | refine QL_next ?_ | refine QL_exit ?_ | refine QL_ret ?_ | refine QL_out (by decide) ?_ | (show Fin _ _ .ret _; exact Fin_ret (by first | (simp [c3]; done) | (simp [c3]; with_reducible rfl))) | (show Fin _ _ .normal _; exact Fin_end (by first | (simp [c3]; done) | (simp [c3]; with_reducible rfl))))
          exact hk _ (.inl (by simp; try rfl))
      · obtain ⟨P', fa', fb', w', objs', hR, hwf, hlen, hF⟩ := does P hs I.due fa fb 0 _ _ (.inr ⟨rfl, rfl, hem⟩) l[i].1 l[i].2
        have hk := key P' hR fa' fb'
        clear key ih
        unfold WF2 WF at hwf
        unfold c3_k0
        simp only [oPr, cPr] at hc hF hk
        rcases hwf with (⟨rfl, v, rfl⟩ | ⟨rfl, rfl, hem'⟩) | ⟨x, v, v', rfl, rfl⟩
        · refine W_round hc ?_
          unfold c3_l0
          repeat (first | refine W_assoc ?_ | (show W _ (.seq (.region _ _) _) _ _; refine W_reg (by simp; with_reducible rfl) ?_) | (show R _ _ _ (_ :: _) _ _ _ _; refine R_op (by simp (maxSteps := 2000000) [hlt, hlt', h200, h200', hw, hF]; with_reducible rfl) ?_) | (show R _ _ _ [] _ _ _ _; refine R_nil (by simp; with_reducible rfl) ?_) | (show W _ (.seq (.cond _ _ _) _) _ _; first | refine W_ct (by first | (simp [hlt, hlt', h200, h200', hw, hF]; done) | fail) ?_ | refine W_cf (by first | (simp [hlt, hlt', h200, h200', hw, hF]; done) | fail) ?_) | refine W_skip ?_ | refine W_bl (c := .seq _ _) ?_ | refine W_bl (c := .region _ _) ?_ | refine W_bl (c := .cond _ _ _) ?_ | refine W_bl (c := .block _ _) ?_ | refine W_rt ?_ | refine W_ex ?_ | refine W_end ?_ | refine W_tail (a := .region _ _) ?_ | refine W_tail (a := .cond _ _ _) ?_ | refine W_tail (a := .ret) ?_ | refine W_tail (a := .exit _) ?_ | refine W_tail (a := .block _ _) ?_ | refine QB_normal ?_ | refine QB_exit ?_ | refine QB_ret ?_ | refine QB_out (by decide) ?_ | refine QL_next ?_ | refine QL_exit ?_ | refine QL_ret ?_ | refine QL_out (by decide) ?_ | (show Fin _ _ .ret _; exact Fin_ret (by first | (simp [c3]; done) | (simp [c3]; with_reducible rfl))) | (show Fin _ _ .normal _; exact Fin_end (by first | (simp [c3]; done) | (simp [c3]; with_reducible rfl))))
          exact hk _ (.inl (by simp; try rfl))
        · refine W_round hc ?_
          unfold c3_l0
          repeat (first | refine W_assoc ?_ | (show W _ (.seq (.region _ _) _) _ _; refine W_reg (by simp; with_reducible rfl) ?_) | (show R _ _ _ (_ :: _) _ _ _ _; refine R_op (by simp (maxSteps := 2000000) [hlt, hlt', h200, h200', hw, hF]; with_reducible rfl) ?_) | (show R _ _ _ [] _ _ _ _; refine R_nil (by simp; with_reducible rfl) ?_) | (show W _ (.seq (.cond _ _ _) _) _ _; first | refine W_ct (by first | (simp [hlt, hlt', h200, h200', hw, hF]; done) | fail) ?_ | refine W_cf (by first | (simp [hlt, hlt', h200, h200', hw, hF]; done) | fail) ?_) | refine W_skip ?_ | refine W_bl (c := .seq _ _) ?_ | refine W_bl (c := .region _ _) ?_ | refine W_bl (c := .cond _ _ _) ?_ | refine W_bl (c := .block _ _) ?_ | refine W_rt ?_ | refine W_ex ?_ | refine W_end ?_ | refine W_tail (a := .region _ _) ?_ | refine W_tail (a := .cond _ _ _) ?_ | refine W_tail (a := .ret) ?_ | refine W_tail (a := .exit _) ?_ | refine W_tail (a := .block _ _) ?_ | refine QB_normal ?_ | refine QB_exit ?_ | refine QB_ret ?_ | refine QB_out (by decide) ?_ | refine QL_next ?_ | refine QL_exit ?_ | refine QL_ret ?_ | refine QL_out (by decide) ?_ | (show Fin _ _ .ret _; exact Fin_ret (by first | (simp [c3]; done) | (simp [c3]; with_reducible rfl))) | (show Fin _ _ .normal _; exact Fin_end (by first | (simp [c3]; done) | (simp [c3]; with_reducible rfl))))
          exact hk _ (.inr ⟨hem', by simp; try rfl⟩)
        · refine W_round hc ?_
          unfold c3_l0
          repeat (first | refine W_assoc ?_ | (show W _ (.seq (.region _ _) _) _ _; refine W_reg (by simp; with_reducible rfl) ?_) | (show R _ _ _ (_ :: _) _ _ _ _; refine R_op (by simp (maxSteps := 2000000) [hlt, hlt', h200, h200', hw, hF]; with_reducible rfl) ?_) | (show R _ _ _ [] _ _ _ _; refine R_nil (by simp; with_reducible rfl) ?_) | (show W _ (.seq (.cond _ _ _) _) _ _; first | refine W_ct (by first | (simp [hlt, hlt', h200, h200', hw, hF]; done) | fail) ?_ | refine W_cf (by first | (simp [hlt, hlt', h200, h200', hw, hF]; done) | fail) ?_) | refine W_skip ?_ | refine W_bl (c := .seq _ _) ?_ | refine W_bl (c := .region _ _) ?_ | refine W_bl (c := .cond _ _ _) ?_ | refine W_bl (c := .block _ _) ?_ | refine W_rt ?_ | refine W_ex ?_ | refine W_end ?_ | refine W_tail (a := .region _ _) ?_ | refine W_tail (a := .cond _ _ _) ?_ | refine W_tail (a := .ret) ?_ | refine W_tail (a := .exit _) ?_ | refine W_tail (a := .block _ _) ?_ | refine QB_normal ?_ | refine QB_exit ?_ | refine QB_ret ?_ | refine QB_out (by decide) ?_ | refine QL_next ?_ | refine QL_exit ?_ | refine QL_ret ?_ | refine QL_out (by decide) ?_ | (show Fin _ _ .ret _; exact Fin_ret (by first | (simp [c3]; done) | (simp [c3]; with_reducible rfl))) | (show Fin _ _ .normal _; exact Fin_end (by first | (simp [c3]; done) | (simp [c3]; with_reducible rfl))))
          exact hk _ (.inl (by simp; try rfl))
    · have hlt' : ¬ (i : Int) < l.length := by omega
      unfold c3_k0
      rcases hc with hc | ⟨_, hc⟩
      · simp only [oPr, cPr] at hc
        refine W_round hc ?_
        unfold c3_l0
        repeat (first | refine W_assoc ?_ | (show W _ (.seq (.region _ _) _) _ _; refine W_reg (by simp; with_reducible rfl) ?_) | (show R _ _ _ (_ :: _) _ _ _ _; refine R_op (by simp (maxSteps := 2000000) [hlt, hlt', w5]; with_reducible rfl) ?_) | (show R _ _ _ [] _ _ _ _; refine R_nil (by simp; with_reducible rfl) ?_) | (show W _ (.seq (.cond _ _ _) _) _ _; first | refine W_ct (by first | (simp [hlt, hlt', w5]; done) | fail) ?_ | refine W_cf (by first | (simp [hlt, hlt', w5]; done) | fail) ?_) | refine W_skip ?_ | refine W_bl (c := .seq _ _) ?_ | refine W_bl (c := .region _ _) ?_ | refine W_bl (c := .cond _ _ _) ?_ | refine W_bl (c := .block _ _) ?_ | refine W_rt ?_ | refine W_ex ?_ | refine W_end ?_ | refine W_tail (a := .region _ _) ?_ | refine W_tail (a := .cond _ _ _) ?_ | refine W_tail (a := .ret) ?_ | refine W_tail (a := .exit _) ?_ | refine W_tail (a := .block _ _) ?_ | refine QB_normal ?_ | refine QB_exit ?_ | refine QB_ret ?_ | refine QB_out (by decide) ?_ | refine QL_next ?_ | refine QL_exit ?_ | refine QL_ret ?_ | refine QL_out (by decide) ?_ | (show Fin _ _ .ret _; exact Fin_ret (by first | (simp [c3]; done) | (simp [c3]; with_reducible rfl))) | (show Fin _ _ .normal _; exact Fin_end (by first | (simp [c3]; done) | (simp [c3]; with_reducible rfl))))
      · simp only [oPr, cPr] at hc
        refine W_round hc ?_
        unfold c3_l0
        repeat (first | refine W_assoc ?_ | (show W _ (.seq (.region _ _) _) _ _; refine W_reg (by simp; with_reducible rfl) ?_) | (show R _ _ _ (_ :: _) _ _ _ _; refine R_op (by simp (maxSteps := 2000000) [hlt, hlt', w5]; with_reducible rfl) ?_) | (show R _ _ _ [] _ _ _ _; refine R_nil (by simp; with_reducible rfl) ?_) | (show W _ (.seq (.cond _ _ _) _) _ _; first | refine W_ct (by first | (simp [hlt, hlt', w5]; done) | fail) ?_ | refine W_cf (by first | (simp [hlt, hlt', w5]; done) | fail) ?_) | refine W_skip ?_ | refine W_bl (c := .seq _ _) ?_ | refine W_bl (c := .region _ _) ?_ | refine W_bl (c := .cond _ _ _) ?_ | refine W_bl (c := .block _ _) ?_ | refine W_rt ?_ | refine W_ex ?_ | refine W_end ?_ | refine W_tail (a := .region _ _) ?_ | refine W_tail (a := .cond _ _ _) ?_ | refine W_tail (a := .ret) ?_ | refine W_tail (a := .exit _) ?_ | refine W_tail (a := .block _ _) ?_ | refine QB_normal ?_ | refine QB_exit ?_ | refine QB_ret ?_ | refine QB_out (by decide) ?_ | refine QL_next ?_ | refine QL_exit ?_ | refine QL_ret ?_ | refine QL_out (by decide) ?_ | (show Fin _ _ .ret _; exact Fin_ret (by first | (simp [c3]; done) | (simp [c3]; with_reducible rfl))) | (show Fin _ _ .normal _; exact Fin_end (by first | (simp [c3]; done) | (simp [c3]; with_reducible rfl))))

/-- Both ends at the start. -/
def begin_ : Pr := ⟨⟨0, 8, 1, ⟨1, 1, [], 1, 0⟩, 1, 1, 0⟩, ⟨8, 0, 1, ⟨1, 1, [], 1, 0⟩, 1, 1, 0⟩, [], 0, 0, 0, 0⟩

theorem F_begun : F T 10 [] [] = some (.ref 0 0 0, [oPr true true (.ro 7 [] true) begin_ 0]) := F_iff.2 ⟨30, by kernel_rfl⟩

theorem inv_begin : Inv begin_ 0 0 :=
  ⟨⟨rfl, rfl, rfl, rfl, rfl, rfl, rfl, rfl, rfl, Nat.le_refl _, by decide⟩, ⟨rfl, rfl, rfl, rfl, rfl, rfl, rfl, rfl, rfl, Nat.le_refl _, by decide⟩, by decide, by decide, by decide, by decide, by decide, by decide, fun x hx => by cases hx⟩

theorem linkOnce (l : List P2) : F T 3 [.ro 2 (enc e2 l) false] [] = some (.bool true, []) := by
  have f1 := F_begun
  simp only [oPr, cPr, begin_] at f1
  refine F_W T3 ?_
  simp only [c3, c3_b, Lift.start]
  repeat (first | refine W_assoc ?_ | (show W _ (.seq (.region _ _) _) _ _; refine W_reg (by simp; with_reducible rfl) ?_) | (show R _ _ _ (_ :: _) _ _ _ _; refine R_op (by simp (maxSteps := 2000000) [f1]; with_reducible rfl) ?_) | (show R _ _ _ [] _ _ _ _; refine R_nil (by simp; with_reducible rfl) ?_) | (show W _ (.seq (.cond _ _ _) _) _ _; first | refine W_ct (by first | (simp [f1]; done) | fail) ?_ | refine W_cf (by first | (simp [f1]; done) | fail) ?_) | refine W_skip ?_ | refine W_bl (c := .seq _ _) ?_ | refine W_bl (c := .region _ _) ?_ | refine W_bl (c := .cond _ _ _) ?_ | refine W_bl (c := .block _ _) ?_ | refine W_rt ?_ | refine W_ex ?_ | refine W_end ?_ | refine W_tail (a := .region _ _) ?_ | refine W_tail (a := .cond _ _ _) ?_ | refine W_tail (a := .ret) ?_ | refine W_tail (a := .exit _) ?_ | refine W_tail (a := .block _ _) ?_ | refine QB_normal ?_ | refine QB_exit ?_ | refine QB_ret ?_ | refine QB_out (by decide) ?_ | refine QL_next ?_ | refine QL_exit ?_ | refine QL_ret ?_ | refine QL_out (by decide) ?_ | (show Fin _ _ .ret _; exact Fin_ret (by first | (simp; done) | (simp; with_reducible rfl))) | (show Fin _ _ .normal _; exact Fin_end (by first | (simp; done) | (simp; with_reducible rfl))))
  refine once_loop l 200 0 begin_ 0 0 true true _ rfl (Nat.zero_le _) inv_begin (Nat.le_refl _) (Nat.le_refl _) (Nat.zero_le _) (.inr ⟨rfl, ?_⟩)
  simp [begin_]; try rfl

end Go.Proofs.Ytjpccbjgmogclaa.Link
