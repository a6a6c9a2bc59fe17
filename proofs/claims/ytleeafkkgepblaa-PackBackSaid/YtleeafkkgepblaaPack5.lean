/- Packets: what is opened, by the program and by the document. -/
import Derived.Test.YtleeafkkgepblaaPack5a
import Derived.Test.YtleeafkkgepblaaPack5b
import Derived.Test.YtleeafkkgepblaaPack5c
set_option linter.all false
set_option linter.unusedSimpArgs false
set_option maxRecDepth 100000
set_option maxHeartbeats 8000000
namespace Go.Proofs.Ytleeafkkgepblaa.Oct
open Go Go.RowKit Go.Proofs.Ytleeafkkgepblaa.Lift Go.Proofs.Ytleeafkkgepblaa.TPB Go.Proofs.Ytleeafkkgepblaa.Base Go.Proofs.Ytleeafkkgepblaa Go.Proofs.Ytleeafkkgepblaa.CrcC

theorem open_body (s x : List Int) (hs : ∀ a ∈ s, 0 ≤ a ∧ a ≤ 255) (hsl : s.length ≤ 4112) (hx : ∀ a ∈ x, 0 ≤ a ∧ a ≤ 255) (hxl : x.length ≤ 4096) (u : Nat) (hcut : cutP s = (x, u, 0)) (hu : ¬ u < s.length) : F T 6 [.str (bs s)] [] = some (.tup [.agg (pk (parseP x).1), .int .i64 (parseP x).2], []) := by
  have k1 : 0 ≤ (rdL x 0 4).1 ∧ (rdL x 0 4).1 ≤ 4 := rdN_top x 0 4 (by omega) hx
  have hk : ((rdL x 0 4).1 = 0 ∨ (rdL x 0 4).1 = 2 ∨ (rdL x 0 4).1 = 3) ∨ (rdL x 0 4).1 = 1 ∨ (rdL x 0 4).1 = 4 := by omega
  rcases hk with hk | hk | hk
  · exact open_body_a s x hs hsl hx hxl u hcut hu hk
  · exact open_body_b s x hs hsl hx hxl u hcut hu hk
  · exact open_body_c s x hs hsl hx hxl u hcut hu hk

theorem F_POpen (s : List Int) (hs : ∀ a ∈ s, 0 ≤ a ∧ a ≤ 255) (hsl : s.length ≤ 4112) : F T 6 [.str (bs s)] [] = some (.tup [.agg (pk (openP s).1), .int .i64 (openP s).2], []) := by
  unfold openP
  by_cases he : (cutP s).2.2 = 0
  · rw [if_neg (by simpa using he)]
    obtain ⟨g1, g2, g3⟩ := cutP_back s hs he
    by_cases hu : (cutP s).2.1 < s.length
    · rw [if_pos hu]
      have hc := FV_of (F_Cut s hs hsl)
      simp only [clo, List.map] at hc
      have hbs := bytesRow_bs s hs
      generalize cutP s = q at *
      obtain ⟨x, u, e⟩ := q
      simp only [] at hc he hu
      subst he
      have hu' : (u : Int) < s.length := by omega
      refine F_W T6 ?_
      simp only [c6, c6_b, Lift.start]
      repeat (first | refine W_assoc ?_ | (show W _ (.seq (.region _ _) _) _ _; refine W_reg (by simp; with_reducible rfl) ?_) | (show R _ _ _ (_ :: _) _ _ _ _; refine R_op (by simp (maxSteps := 2000000) [hc, hbs, hu, hu']; with_reducible rfl) ?_) | (show R _ _ _ [] _ _ _ _; refine R_nil (by simp; with_reducible rfl) ?_) | (show W _ (.seq (.cond _ _ _) _) _ _; first | refine W_ct (by first | (simp [hc, hbs, hu, hu']; done) | fail) ?_ | refine W_cf (by first | (simp [hc, hbs, hu, hu']; done) | fail) ?_) | refine W_skip ?_ | refine W_bl (c := .seq _ _) ?_ | refine W_bl (c := .region _ _) ?_ | refine W_bl (c := .cond _ _ _) ?_ | refine W_bl (c := .block _ _) ?_ | refine W_rt ?_ | refine W_ex ?_ | refine W_end ?_ | refine W_tail (a := .region _ _) ?_ | refine W_tail (a := .cond _ _ _) ?_ | refine W_tail (a := .ret) ?_ | refine W_tail (a := .exit _) ?_ | refine W_tail (a := .block _ _) ?_ | refine QB_normal ?_ | refine QB_exit ?_ | refine QB_ret ?_ | refine QB_out (by decide) ?_ | refine QL_next ?_ | refine QL_exit ?_ | refine QL_ret ?_ | refine QL_out (by decide) ?_ | (show Fin _ _ .ret _; exact Fin_ret (by first | (simp [c6, noP, bs0]; done) | (simp [c6, noP, bs0]; with_reducible rfl))) | (show Fin _ _ .normal _; exact Fin_end (by first | (simp [c6, noP, bs0]; done) | (simp [c6, noP, bs0]; with_reducible rfl))))
    · rw [if_neg hu]
      refine open_body s (cutP s).1 hs hsl g3 g2 (cutP s).2.1 ?_ hu
      rw [← he]
  · rw [if_pos he]
    have hc := FV_of (F_Cut s hs hsl)
    simp only [clo, List.map] at hc
    have hbs := bytesRow_bs s hs
    generalize cutP s = q at *
    obtain ⟨x, u, e⟩ := q
    simp only [] at hc he ⊢
    refine F_W T6 ?_
    simp only [c6, c6_b, Lift.start]
    repeat (first | refine W_assoc ?_ | (show W _ (.seq (.region _ _) _) _ _; refine W_reg (by simp; with_reducible rfl) ?_) | (show R _ _ _ (_ :: _) _ _ _ _; refine R_op (by simp (maxSteps := 2000000) [hc, hbs, he]; with_reducible rfl) ?_) | (show R _ _ _ [] _ _ _ _; refine R_nil (by simp; with_reducible rfl) ?_) | (show W _ (.seq (.cond _ _ _) _) _ _; first | refine W_ct (by first | (simp [hc, hbs, he]; done) | fail) ?_ | refine W_cf (by first | (simp [hc, hbs, he]; done) | fail) ?_) | refine W_skip ?_ | refine W_bl (c := .seq _ _) ?_ | refine W_bl (c := .region _ _) ?_ | refine W_bl (c := .cond _ _ _) ?_ | refine W_bl (c := .block _ _) ?_ | refine W_rt ?_ | refine W_ex ?_ | refine W_end ?_ | refine W_tail (a := .region _ _) ?_ | refine W_tail (a := .cond _ _ _) ?_ | refine W_tail (a := .ret) ?_ | refine W_tail (a := .exit _) ?_ | refine W_tail (a := .block _ _) ?_ | refine QB_normal ?_ | refine QB_exit ?_ | refine QB_ret ?_ | refine QB_out (by decide) ?_ | refine QL_next ?_ | refine QL_exit ?_ | refine QL_ret ?_ | refine QL_out (by decide) ?_ | (show Fin _ _ .ret _; exact Fin_ret (by first | (simp [c6, noP, bs0]; done) | (simp [c6, noP, bs0]; with_reducible rfl))) | (show Fin _ _ .normal _; exact Fin_end (by first | (simp [c6, noP, bs0]; done) | (simp [c6, noP, bs0]; with_reducible rfl))))

end Go.Proofs.Ytleeafkkgepblaa.Oct
