/- Packets: what is opened, by the program and by the document. -/
import Derived.Test.YtleeafkkgepblaaPack4
set_option linter.all false
set_option linter.unusedSimpArgs false
set_option maxRecDepth 100000
set_option maxHeartbeats 8000000
namespace Go.Proofs.Ytleeafkkgepblaa.Oct
open Go Go.RowKit Go.Proofs.Ytleeafkkgepblaa.Lift Go.Proofs.Ytleeafkkgepblaa.TPB Go.Proofs.Ytleeafkkgepblaa.Base Go.Proofs.Ytleeafkkgepblaa Go.Proofs.Ytleeafkkgepblaa.CrcC

theorem open_body_b (s x : List Int) (hs : ∀ a ∈ s, 0 ≤ a ∧ a ≤ 255) (hsl : s.length ≤ 4112) (hx : ∀ a ∈ x, 0 ≤ a ∧ a ≤ 255) (hxl : x.length ≤ 4096) (u : Nat) (hcut : cutP s = (x, u, 0)) (hu : ¬ u < s.length) (hk : (rdL x 0 4).1 = 1) : F T 6 [.str (bs s)] [] = some (.tup [.agg (pk (parseP x).1), .int .i64 (parseP x).2], []) := by
  have hc := FV_of (F_Cut s hs hsl)
  rw [hcut] at hc
  simp only [clo, List.map] at hc
  have hu' : ¬ (u : Int) < s.length := by omega
  have hbs := bytesRow_bs s hs
  have hbx := bytesRow_bs x hx
  have hnew := F_New _ x (.inl rfl) (by omega)
  have hI0 : InR x 0 x.length := ⟨hx, by omega, by omega⟩
  have f1 := F_pleast hI0 0 4
  rw [List.drop_zero] at f1
  have b1 := rdL_le x 0 4 hx
  unfold parseP readP
  generalize rdL x 0 4 = a at *
  obtain ⟨k, n1, e1⟩ := a
  simp only [Nat.zero_add] at *
  have hI1 := hI0.next b1
  rw [Nat.zero_add] at hI1
  have f2 := F_RNum hI1 e1 71
  have b2 := rdN_le _ e1 71 hI1.rg
  rw [hI1.len] at b2
  have hI2 := hI1.next b2
  have hd2 : x.drop (n1 + (rdN (x.drop n1) e1 71).2.1) = (x.drop n1).drop (rdN (x.drop n1) e1 71).2.1 := by rw [List.drop_drop]
  rw [← hd2]
  clear hd2
  generalize rdN (x.drop n1) e1 71 = a at *
  obtain ⟨fr, n2, e2⟩ := a
  simp only [] at *
  have f3 := F_RNum hI2 e2 71
  have b3 := rdN_le _ e2 71 hI2.rg
  rw [hI2.len] at b3
  have hI3 := hI2.next b3
  have hd3 : x.drop (n1 + n2 + (rdN (x.drop (n1 + n2)) e2 71).2.1) = (x.drop (n1 + n2)).drop (rdN (x.drop (n1 + n2)) e2 71).2.1 := by rw [List.drop_drop]
  rw [← hd3]
  clear hd3
  generalize rdN (x.drop (n1 + n2)) e2 71 = a at *
  obtain ⟨to, n3, e3⟩ := a
  simp only [] at *
  have ff := F_Fail x (n1 + n2 + n3) (x.length - n1 - n2 - n3) e3 3
  have v1 := V_hasPeer k
  have v2 := V_hasSeq k
  have v3 := V_hasBody k
  generalize hlo3 : n1 + n2 + n3 = lo3 at *
  generalize hm3 : x.length - n1 - n2 - n3 = m3 at *
  obtain ⟨e3', he3⟩ : ∃ e, e = fail3 (decide (fr = to)) e3 := ⟨_, rfl⟩
  rw [← he3]
  have f4 := F_pleast hI3 e3' 72057594037927935
  have b4 := rdL_le _ e3' 72057594037927935 hI3.rg
  rw [hI3.len] at b4
  have hI4 := hI3.next b4
  have hd4 : x.drop (lo3 + (rdL (x.drop lo3) e3' 72057594037927935).2.1) = (x.drop lo3).drop (rdL (x.drop lo3) e3' 72057594037927935).2.1 := by rw [List.drop_drop]
  rw [← hd4]
  clear hd4
  generalize rdL (x.drop lo3) e3' 72057594037927935 = a at *
  obtain ⟨ic, n4, e4⟩ := a
  simp only [] at *
  refine F_W T6 ?_
  simp only [c6, c6_b, Lift.start]
  rcases hk with rfl
  · simp only [show hP 1 = true from rfl, show hS 1 = true from rfl, show hB 1 = true from rfl] at v1 v2 v3 ⊢
    simp only [rdH, rdB, if_true, Bool.false_eq_true, if_false, List.drop_zero]
    have f5 := F_pleast hI4 e4 72057594037927935
    have b5 := rdL_le _ e4 72057594037927935 hI4.rg
    rw [hI4.len] at b5
    have hI5 := hI4.next b5
    have hd5 : x.drop (lo3 + n4 + (rdL (x.drop (lo3 + n4)) e4 72057594037927935).2.1) = (x.drop (lo3 + n4)).drop (rdL (x.drop (lo3 + n4)) e4 72057594037927935).2.1 := by rw [List.drop_drop]
    rw [← hd5]
    clear hd5
    generalize rdL (x.drop (lo3 + n4)) e4 72057594037927935 = a5 at *
    obtain ⟨w5, n5, e5⟩ := a5
    simp only [] at *
    have f6 := F_pleast hI5 e5 72057594037927935
    have b6 := rdL_le _ e5 72057594037927935 hI5.rg
    rw [hI5.len] at b6
    have hI6 := hI5.next b6
    have hd6 : x.drop (lo3 + n4 + n5 + (rdL (x.drop (lo3 + n4 + n5)) e5 72057594037927935).2.1) = (x.drop (lo3 + n4 + n5)).drop (rdL (x.drop (lo3 + n4 + n5)) e5 72057594037927935).2.1 := by rw [List.drop_drop]
    rw [← hd6]
    clear hd6
    generalize rdL (x.drop (lo3 + n4 + n5)) e5 72057594037927935 = a6 at *
    obtain ⟨w6, n6, e6⟩ := a6
    simp only [] at *
    have f7 := F_RText hI6 e6 32
    have b7 := rdT_le _ e6 32 hI6.rg
    rw [hI6.len] at b7
    have hI7 := hI6.next b7
    have hd7 : x.drop (lo3 + n4 + n5 + n6 + (rdT (x.drop (lo3 + n4 + n5 + n6)) e6 32).2.1) = (x.drop (lo3 + n4 + n5 + n6)).drop (rdT (x.drop (lo3 + n4 + n5 + n6)) e6 32).2.1 := by rw [List.drop_drop]
    rw [← hd7]
    clear hd7
    generalize rdT (x.drop (lo3 + n4 + n5 + n6)) e6 32 = a7 at *
    obtain ⟨w7, n7, e7⟩ := a7
    simp only [] at *
    rw [hI7.len]
    have fb := F_Fail x (lo3 + n4 + n5 + n6 + n7) (m3 - n4 - n5 - n6 - n7) e7 3
    obtain ⟨ez, hez⟩ : ∃ e, e = fail3 (decide (w7 = [])) e7 := ⟨_, rfl⟩
    rw [← hez]
    have fe := F_REnd x (lo3 + n4 + n5 + n6 + n7) (m3 - n4 - n5 - n6 - n7) ez
    by_cases hft : fr = to
    · rw [decide_eq_true hft, fail3_t] at he3
      rw [← he3] at ff
      subst hft
      by_cases hw : w7 = []
      · rw [decide_eq_true hw, fail3_t] at hez
        rw [← hez] at fb
        subst hw
        by_cases hz : endE ez (m3 - n4 - n5 - n6 - n7) = 0
        · rw [hz] at fe ⊢
          rw [if_neg (by simp)]
          repeat (first | refine W_assoc ?_ | (show W _ (.seq (.region _ _) _) _ _; refine W_reg (by simp; with_reducible rfl) ?_) | (show R _ _ _ (_ :: _) _ _ _ _; refine R_op (by simp (maxSteps := 2000000) [hc, hbs, hbx, hnew, f1, f2, f3, f4, v1, v2, v3, hu, hu', f5, f6, f7, fe, ff, fb]; with_reducible rfl) ?_) | (show R _ _ _ [] _ _ _ _; refine R_nil (by simp; with_reducible rfl) ?_) | (show W _ (.seq (.cond _ _ _) _) _ _; first | refine W_ct (by first | (simp [hc, hbs, hbx, hnew, f1, f2, f3, f4, v1, v2, v3, hu, hu', f5, f6, f7, fe, ff, fb]; done) | fail) ?_ | refine W_cf (by first | (simp [hc, hbs, hbx, hnew, f1, f2, f3, f4, v1, v2, v3, hu, hu', f5, f6, f7, fe, ff, fb]; done) | fail) ?_) | refine W_skip ?_ | refine W_bl (c := .seq _ _) ?_ | refine W_bl (c := .region _ _) ?_ | refine W_bl (c := .cond _ _ _) ?_ | refine W_bl (c := .block _ _) ?_ | refine W_rt ?_ | refine W_ex ?_ | refine W_end ?_ | refine W_tail (a := .region _ _) ?_ | refine W_tail (a := .cond _ _ _) ?_ | refine W_tail (a := .ret) ?_ | refine W_tail (a := .exit _) ?_ | refine W_tail (a := .block _ _) ?_ | refine QB_normal ?_ | refine QB_exit ?_ | refine QB_ret ?_ | refine QB_out (by decide) ?_ | refine QL_next ?_ | refine QL_exit ?_ | refine QL_ret ?_ | refine QL_out (by decide) ?_ | (show Fin _ _ .ret _; exact Fin_ret (by first | (simp [c6, noP, bs0]; done) | (simp [c6, noP, bs0]; with_reducible rfl))) | (show Fin _ _ .normal _; exact Fin_end (by first | (simp [c6, noP, bs0]; done) | (simp [c6, noP, bs0]; with_reducible rfl))))
        · rw [if_pos hz]
          repeat (first | refine W_assoc ?_ | (show W _ (.seq (.region _ _) _) _ _; refine W_reg (by simp; with_reducible rfl) ?_) | (show R _ _ _ (_ :: _) _ _ _ _; refine R_op (by simp (maxSteps := 2000000) [hc, hbs, hbx, hnew, f1, f2, f3, f4, v1, v2, v3, hu, hu', f5, f6, f7, fe, ff, fb, hz]; with_reducible rfl) ?_) | (show R _ _ _ [] _ _ _ _; refine R_nil (by simp; with_reducible rfl) ?_) | (show W _ (.seq (.cond _ _ _) _) _ _; first | refine W_ct (by first | (simp [hc, hbs, hbx, hnew, f1, f2, f3, f4, v1, v2, v3, hu, hu', f5, f6, f7, fe, ff, fb, hz]; done) | fail) ?_ | refine W_cf (by first | (simp [hc, hbs, hbx, hnew, f1, f2, f3, f4, v1, v2, v3, hu, hu', f5, f6, f7, fe, ff, fb, hz]; done) | fail) ?_) | refine W_skip ?_ | refine W_bl (c := .seq _ _) ?_ | refine W_bl (c := .region _ _) ?_ | refine W_bl (c := .cond _ _ _) ?_ | refine W_bl (c := .block _ _) ?_ | refine W_rt ?_ | refine W_ex ?_ | refine W_end ?_ | refine W_tail (a := .region _ _) ?_ | refine W_tail (a := .cond _ _ _) ?_ | refine W_tail (a := .ret) ?_ | refine W_tail (a := .exit _) ?_ | refine W_tail (a := .block _ _) ?_ | refine QB_normal ?_ | refine QB_exit ?_ | refine QB_ret ?_ | refine QB_out (by decide) ?_ | refine QL_next ?_ | refine QL_exit ?_ | refine QL_ret ?_ | refine QL_out (by decide) ?_ | (show Fin _ _ .ret _; exact Fin_ret (by first | (simp [c6, noP, bs0]; done) | (simp [c6, noP, bs0]; with_reducible rfl))) | (show Fin _ _ .normal _; exact Fin_end (by first | (simp [c6, noP, bs0]; done) | (simp [c6, noP, bs0]; with_reducible rfl))))
      · rw [decide_eq_false hw, fail3_f] at hez
        subst hez
        by_cases hz : endE ez (m3 - n4 - n5 - n6 - n7) = 0
        · rw [hz] at fe ⊢
          rw [if_neg (by simp)]
          repeat (first | refine W_assoc ?_ | (show W _ (.seq (.region _ _) _) _ _; refine W_reg (by simp; with_reducible rfl) ?_) | (show R _ _ _ (_ :: _) _ _ _ _; refine R_op (by simp (maxSteps := 2000000) [hc, hbs, hbx, hnew, f1, f2, f3, f4, v1, v2, v3, hu, hu', f5, f6, f7, fe, ff, hw]; with_reducible rfl) ?_) | (show R _ _ _ [] _ _ _ _; refine R_nil (by simp; with_reducible rfl) ?_) | (show W _ (.seq (.cond _ _ _) _) _ _; first | refine W_ct (by first | (simp [hc, hbs, hbx, hnew, f1, f2, f3, f4, v1, v2, v3, hu, hu', f5, f6, f7, fe, ff, hw]; done) | fail) ?_ | refine W_cf (by first | (simp [hc, hbs, hbx, hnew, f1, f2, f3, f4, v1, v2, v3, hu, hu', f5, f6, f7, fe, ff, hw]; done) | fail) ?_) | refine W_skip ?_ | refine W_bl (c := .seq _ _) ?_ | refine W_bl (c := .region _ _) ?_ | refine W_bl (c := .cond _ _ _) ?_ | refine W_bl (c := .block _ _) ?_ | refine W_rt ?_ | refine W_ex ?_ | refine W_end ?_ | refine W_tail (a := .region _ _) ?_ | refine W_tail (a := .cond _ _ _) ?_ | refine W_tail (a := .ret) ?_ | refine W_tail (a := .exit _) ?_ | refine W_tail (a := .block _ _) ?_ | refine QB_normal ?_ | refine QB_exit ?_ | refine QB_ret ?_ | refine QB_out (by decide) ?_ | refine QL_next ?_ | refine QL_exit ?_ | refine QL_ret ?_ | refine QL_out (by decide) ?_ | (show Fin _ _ .ret _; exact Fin_ret (by first | (simp [c6, noP, bs0]; done) | (simp [c6, noP, bs0]; with_reducible rfl))) | (show Fin _ _ .normal _; exact Fin_end (by first | (simp [c6, noP, bs0]; done) | (simp [c6, noP, bs0]; with_reducible rfl))))
        · rw [if_pos hz]
          repeat (first | refine W_assoc ?_ | (show W _ (.seq (.region _ _) _) _ _; refine W_reg (by simp; with_reducible rfl) ?_) | (show R _ _ _ (_ :: _) _ _ _ _; refine R_op (by simp (maxSteps := 2000000) [hc, hbs, hbx, hnew, f1, f2, f3, f4, v1, v2, v3, hu, hu', f5, f6, f7, fe, ff, hw, hz]; with_reducible rfl) ?_) | (show R _ _ _ [] _ _ _ _; refine R_nil (by simp; with_reducible rfl) ?_) | (show W _ (.seq (.cond _ _ _) _) _ _; first | refine W_ct (by first | (simp [hc, hbs, hbx, hnew, f1, f2, f3, f4, v1, v2, v3, hu, hu', f5, f6, f7, fe, ff, hw, hz]; done) | fail) ?_ | refine W_cf (by first | (simp [hc, hbs, hbx, hnew, f1, f2, f3, f4, v1, v2, v3, hu, hu', f5, f6, f7, fe, ff, hw, hz]; done) | fail) ?_) | refine W_skip ?_ | refine W_bl (c := .seq _ _) ?_ | refine W_bl (c := .region _ _) ?_ | refine W_bl (c := .cond _ _ _) ?_ | refine W_bl (c := .block _ _) ?_ | refine W_rt ?_ | refine W_ex ?_ | refine W_end ?_ | refine W_tail (a := .region _ _) ?_ | refine W_tail (a := .cond _ _ _) ?_ | refine W_tail (a := .ret) ?_ | refine W_tail (a := .exit _) ?_ | refine W_tail (a := .block _ _) ?_ | refine QB_normal ?_ | refine QB_exit ?_ | refine QB_ret ?_ | refine QB_out (by decide) ?_ | refine QL_next ?_ | refine QL_exit ?_ | refine QL_ret ?_ | refine QL_out (by decide) ?_ | (show Fin _ _ .ret _; exact Fin_ret (by first | (simp [c6, noP, bs0]; done) | (simp [c6, noP, bs0]; with_reducible rfl))) | (show Fin _ _ .normal _; exact Fin_end (by first | (simp [c6, noP, bs0]; done) | (simp [c6, noP, bs0]; with_reducible rfl))))
    · rw [decide_eq_false hft, fail3_f] at he3
      subst he3
      by_cases hw : w7 = []
      · rw [decide_eq_true hw, fail3_t] at hez
        rw [← hez] at fb
        subst hw
        by_cases hz : endE ez (m3 - n4 - n5 - n6 - n7) = 0
        · rw [hz] at fe ⊢
          rw [if_neg (by simp)]
          repeat (first | refine W_assoc ?_ | (show W _ (.seq (.region _ _) _) _ _; refine W_reg (by simp; with_reducible rfl) ?_) | (show R _ _ _ (_ :: _) _ _ _ _; refine R_op (by simp (maxSteps := 2000000) [hc, hbs, hbx, hnew, f1, f2, f3, f4, v1, v2, v3, hu, hu', f5, f6, f7, fe, hft, fb]; with_reducible rfl) ?_) | (show R _ _ _ [] _ _ _ _; refine R_nil (by simp; with_reducible rfl) ?_) | (show W _ (.seq (.cond _ _ _) _) _ _; first | refine W_ct (by first | (simp [hc, hbs, hbx, hnew, f1, f2, f3, f4, v1, v2, v3, hu, hu', f5, f6, f7, fe, hft, fb]; done) | fail) ?_ | refine W_cf (by first | (simp [hc, hbs, hbx, hnew, f1, f2, f3, f4, v1, v2, v3, hu, hu', f5, f6, f7, fe, hft, fb]; done) | fail) ?_) | refine W_skip ?_ | refine W_bl (c := .seq _ _) ?_ | refine W_bl (c := .region _ _) ?_ | refine W_bl (c := .cond _ _ _) ?_ | refine W_bl (c := .block _ _) ?_ | refine W_rt ?_ | refine W_ex ?_ | refine W_end ?_ | refine W_tail (a := .region _ _) ?_ | refine W_tail (a := .cond _ _ _) ?_ | refine W_tail (a := .ret) ?_ | refine W_tail (a := .exit _) ?_ | refine W_tail (a := .block _ _) ?_ | refine QB_normal ?_ | refine QB_exit ?_ | refine QB_ret ?_ | refine QB_out (by decide) ?_ | refine QL_next ?_ | refine QL_exit ?_ | refine QL_ret ?_ | refine QL_out (by decide) ?_ | (show Fin _ _ .ret _; exact Fin_ret (by first | (simp [c6, noP, bs0]; done) | (simp [c6, noP, bs0]; with_reducible rfl))) | (show Fin _ _ .normal _; exact Fin_end (by first | (simp [c6, noP, bs0]; done) | (simp [c6, noP, bs0]; with_reducible rfl))))
        · rw [if_pos hz]
          repeat (first | refine W_assoc ?_ | (show W _ (.seq (.region _ _) _) _ _; refine W_reg (by simp; with_reducible rfl) ?_) | (show R _ _ _ (_ :: _) _ _ _ _; refine R_op (by simp (maxSteps := 2000000) [hc, hbs, hbx, hnew, f1, f2, f3, f4, v1, v2, v3, hu, hu', f5, f6, f7, fe, hft, fb, hz]; with_reducible rfl) ?_) | (show R _ _ _ [] _ _ _ _; refine R_nil (by simp; with_reducible rfl) ?_) | (show W _ (.seq (.cond _ _ _) _) _ _; first | refine W_ct (by first | (simp [hc, hbs, hbx, hnew, f1, f2, f3, f4, v1, v2, v3, hu, hu', f5, f6, f7, fe, hft, fb, hz]; done) | fail) ?_ | refine W_cf (by first | (simp [hc, hbs, hbx, hnew, f1, f2, f3, f4, v1, v2, v3, hu, hu', f5, f6, f7, fe, hft, fb, hz]; done) | fail) ?_) | refine W_skip ?_ | refine W_bl (c := .seq _ _) ?_ | refine W_bl (c := .region _ _) ?_ | refine W_bl (c := .cond _ _ _) ?_ | refine W_bl (c := .block _ _) ?_ | refine W_rt ?_ | refine W_ex ?_ | refine W_end ?_ | refine W_tail (a := .region _ _) ?_ | refine W_tail (a := .cond _ _ _) ?_ | refine W_tail (a := .ret) ?_ | refine W_tail (a := .exit _) ?_ | refine W_tail (a := .block _ _) ?_ | refine QB_normal ?_ | refine QB_exit ?_ | refine QB_ret ?_ | refine QB_out (by decide) ?_ | refine QL_next ?_ | refine QL_exit ?_ | refine QL_ret ?_ | refine QL_out (by decide) ?_ | (show Fin _ _ .ret _; exact Fin_ret (by first | (simp [c6, noP, bs0]; done) | (simp [c6, noP, bs0]; with_reducible rfl))) | (show Fin _ _ .normal _; exact Fin_end (by first | (simp [c6, noP, bs0]; done) | (simp [c6, noP, bs0]; with_reducible rfl))))
      · rw [decide_eq_false hw, fail3_f] at hez
        subst hez
        by_cases hz : endE ez (m3 - n4 - n5 - n6 - n7) = 0
        · rw [hz] at fe ⊢
          rw [if_neg (by simp)]
          repeat (first | refine W_assoc ?_ | (show W _ (.seq (.region _ _) _) _ _; refine W_reg (by simp; with_reducible rfl) ?_) | (show R _ _ _ (_ :: _) _ _ _ _; refine R_op (by simp (maxSteps := 2000000) [hc, hbs, hbx, hnew, f1, f2, f3, f4, v1, v2, v3, hu, hu', f5, f6, f7, fe, hft, hw]; with_reducible rfl) ?_) | (show R _ _ _ [] _ _ _ _; refine R_nil (by simp; with_reducible rfl) ?_) | (show W _ (.seq (.cond _ _ _) _) _ _; first | refine W_ct (by first | (simp [hc, hbs, hbx, hnew, f1, f2, f3, f4, v1, v2, v3, hu, hu', f5, f6, f7, fe, hft, hw]; done) | fail) ?_ | refine W_cf (by first | (simp [hc, hbs, hbx, hnew, f1, f2, f3, f4, v1, v2, v3, hu, hu', f5, f6, f7, fe, hft, hw]; done) | fail) ?_) | refine W_skip ?_ | refine W_bl (c := .seq _ _) ?_ | refine W_bl (c := .region _ _) ?_ | refine W_bl (c := .cond _ _ _) ?_ | refine W_bl (c := .block _ _) ?_ | refine W_rt ?_ | refine W_ex ?_ | refine W_end ?_ | refine W_tail (a := .region _ _) ?_ | refine W_tail (a := .cond _ _ _) ?_ | refine W_tail (a := .ret) ?_ | refine W_tail (a := .exit _) ?_ | refine W_tail (a := .block _ _) ?_ | refine QB_normal ?_ | refine QB_exit ?_ | refine QB_ret ?_ | refine QB_out (by decide) ?_ | refine QL_next ?_ | refine QL_exit ?_ | refine QL_ret ?_ | refine QL_out (by decide) ?_ | (show Fin _ _ .ret _; exact Fin_ret (by first | (simp [c6, noP, bs0]; done) | (simp [c6, noP, bs0]; with_reducible rfl))) | (show Fin _ _ .normal _; exact Fin_end (by first | (simp [c6, noP, bs0]; done) | (simp [c6, noP, bs0]; with_reducible rfl))))
        · rw [if_pos hz]
          repeat (first | refine W_assoc ?_ | (show W _ (.seq (.region _ _) _) _ _; refine W_reg (by simp; with_reducible rfl) ?_) | (show R _ _ _ (_ :: _) _ _ _ _; refine R_op (by simp (maxSteps := 2000000) [hc, hbs, hbx, hnew, f1, f2, f3, f4, v1, v2, v3, hu, hu', f5, f6, f7, fe, hft, hw, hz]; with_reducible rfl) ?_) | (show R _ _ _ [] _ _ _ _; refine R_nil (by simp; with_reducible rfl) ?_) | (show W _ (.seq (.cond _ _ _) _) _ _; first | refine W_ct (by first | (simp [hc, hbs, hbx, hnew, f1, f2, f3, f4, v1, v2, v3, hu, hu', f5, f6, f7, fe, hft, hw, hz]; done) | fail) ?_ | refine W_cf (by first | (simp [hc, hbs, hbx, hnew, f1, f2, f3, f4, v1, v2, v3, hu, hu', f5, f6, f7, fe, hft, hw, hz]; done) | fail) ?_) | refine W_skip ?_ | refine W_bl (c := .seq _ _) ?_ | refine W_bl (c := .region _ _) ?_ | refine W_bl (c := .cond _ _ _) ?_ | refine W_bl (c := .block _ _) ?_ | refine W_rt ?_ | refine W_ex ?_ | refine W_end ?_ | refine W_tail (a := .region _ _) ?_ | refine W_tail (a := .cond _ _ _) ?_ | refine W_tail (a := .ret) ?_ | refine W_tail (a := .exit _) ?_ | refine W_tail (a := .block _ _) ?_ | refine QB_normal ?_ | refine QB_exit ?_ | refine QB_ret ?_ | refine QB_out (by decide) ?_ | refine QL_next ?_ | refine QL_exit ?_ | refine QL_ret ?_ | refine QL_out (by decide) ?_ | (show Fin _ _ .ret _; exact Fin_ret (by first | (simp [c6, noP, bs0]; done) | (simp [c6, noP, bs0]; with_reducible rfl))) | (show Fin _ _ .normal _; exact Fin_end (by first | (simp [c6, noP, bs0]; done) | (simp [c6, noP, bs0]; with_reducible rfl))))

end Go.Proofs.Ytleeafkkgepblaa.Oct
