/- Packets: what is opened, by the document; the law. -/
import Derived.Test.YtnobgooojbppbacPack5
import Derived.Test.YtnobgooojbppbacPack6a
import Derived.Test.YtnobgooojbppbacPack6b
import Derived.Test.YtnobgooojbppbacPack6c
set_option linter.all false
set_option linter.unusedSimpArgs false
set_option maxRecDepth 100000
set_option maxHeartbeats 8000000
namespace Go.Proofs.Ytnobgooojbppbac.Oct
open Go Go.RowKit Go.Proofs.Ytnobgooojbppbac.Lift Go.Proofs.Ytnobgooojbppbac.TOC Go.Proofs.Ytnobgooojbppbac.Base Go.Proofs.Ytnobgooojbppbac Go.Proofs.Ytnobgooojbppbac.CrcC

theorem ropen_body (s x : List Int) (hs : ∀ a ∈ s, 0 ≤ a ∧ a ≤ 255) (hsl : s.length ≤ 4112) (hx : ∀ a ∈ x, 0 ≤ a ∧ a ≤ 255) (hxl : x.length ≤ 4096) (u : Nat) (hcut : cutP s = (x, u, 0)) (hu : ¬ u < s.length) : F T 38 [.str (bs s)] [] = some (.tup [.agg (pk (parseP x).1), .int .i64 (parseP x).2], []) := by
  have k1 : 0 ≤ (rdL x 0 4).1 ∧ (rdL x 0 4).1 ≤ 4 := rdN_top x 0 4 (by omega) hx
  have hk : ((rdL x 0 4).1 = 0 ∨ (rdL x 0 4).1 = 2 ∨ (rdL x 0 4).1 = 3) ∨ (rdL x 0 4).1 = 1 ∨ (rdL x 0 4).1 = 4 := by omega
  rcases hk with hk | hk | hk
  · exact ropen_body_a s x hs hsl hx hxl u hcut hu hk
  · exact ropen_body_b s x hs hsl hx hxl u hcut hu hk
  · exact ropen_body_c s x hs hsl hx hxl u hcut hu hk


theorem F_ROpen (s : List Int) (hs : ∀ a ∈ s, 0 ≤ a ∧ a ≤ 255) (hsl : s.length ≤ 4112) : F T 38 [.str (bs s)] [] = some (.tup [.agg (pk (openP s).1), .int .i64 (openP s).2], []) := by
  unfold openP
  by_cases he : (cutP s).2.2 = 0
  · rw [if_neg (by simpa using he)]
    obtain ⟨g1, g2, g3⟩ := cutP_back s hs he
    by_cases hu : (cutP s).2.1 < s.length
    · rw [if_pos hu]
      have hc := FV_of (F_RCut s hs hsl)
      simp only [clo, List.map] at hc
      generalize cutP s = q at *
      obtain ⟨x, u, e⟩ := q
      simp only [] at hc he hu
      subst he
      have hu' : (u : Int) < s.length := by omega
      refine F_W T38 ?_
      simp only [c38, c38_b, Lift.start]
      repeat (first | refine W_assoc ?_ | (show W _ (.seq (.region _ _) _) _ _; refine W_reg (by simp; with_reducible rfl) ?_) | (show R _ _ _ (_ :: _) _ _ _ _; refine R_op (by simp (maxSteps := 2000000) [hc, hu, hu']; with_reducible rfl) ?_) | (show R _ _ _ [] _ _ _ _; refine R_nil (by simp; with_reducible rfl) ?_) | (show W _ (.seq (.cond _ _ _) _) _ _; first | refine W_ct (by first | (simp [hc, hu, hu']; done) | fail) ?_ | refine W_cf (by first | (simp [hc, hu, hu']; done) | fail) ?_) | refine W_skip ?_ | refine W_bl (c := .seq _ _) ?_ | refine W_bl (c := .region _ _) ?_ | refine W_bl (c := .cond _ _ _) ?_ | refine W_bl (c := .block _ _) ?_ | refine W_rt ?_ | refine W_ex ?_ | refine W_end ?_ | refine W_tail (a := .region _ _) ?_ | refine W_tail (a := .cond _ _ _) ?_ | refine W_tail (a := .ret) ?_ | refine W_tail (a := .exit _) ?_ | refine W_tail (a := .block _ _) ?_ | refine QB_normal ?_ | refine QB_exit ?_ | refine QB_ret ?_ | refine QB_out (by decide) ?_ | refine QL_next ?_ | refine QL_exit ?_ | refine QL_ret ?_ | refine QL_out (by decide) ?_ | (show Fin _ _ .ret _; exact Fin_ret (by first | (simp [c38, noP, bs0]; done) | (simp [c38, noP, bs0]; with_reducible rfl))) | (show Fin _ _ .normal _; exact Fin_end (by first | (simp [c38, noP, bs0]; done) | (simp [c38, noP, bs0]; with_reducible rfl))))
    · rw [if_neg hu]
      refine ropen_body s (cutP s).1 hs hsl g3 g2 (cutP s).2.1 ?_ hu
      rw [← he]
  · rw [if_pos he]
    have hc := FV_of (F_RCut s hs hsl)
    simp only [clo, List.map] at hc
    generalize cutP s = q at *
    obtain ⟨x, u, e⟩ := q
    simp only [] at hc he ⊢
    refine F_W T38 ?_
    simp only [c38, c38_b, Lift.start]
    repeat (first | refine W_assoc ?_ | (show W _ (.seq (.region _ _) _) _ _; refine W_reg (by simp; with_reducible rfl) ?_) | (show R _ _ _ (_ :: _) _ _ _ _; refine R_op (by simp (maxSteps := 2000000) [hc, he]; with_reducible rfl) ?_) | (show R _ _ _ [] _ _ _ _; refine R_nil (by simp; with_reducible rfl) ?_) | (show W _ (.seq (.cond _ _ _) _) _ _; first | refine W_ct (by first | (simp [hc, he]; done) | fail) ?_ | refine W_cf (by first | (simp [hc, he]; done) | fail) ?_) | refine W_skip ?_ | refine W_bl (c := .seq _ _) ?_ | refine W_bl (c := .region _ _) ?_ | refine W_bl (c := .cond _ _ _) ?_ | refine W_bl (c := .block _ _) ?_ | refine W_rt ?_ | refine W_ex ?_ | refine W_end ?_ | refine W_tail (a := .region _ _) ?_ | refine W_tail (a := .cond _ _ _) ?_ | refine W_tail (a := .ret) ?_ | refine W_tail (a := .exit _) ?_ | refine W_tail (a := .block _ _) ?_ | refine QB_normal ?_ | refine QB_exit ?_ | refine QB_ret ?_ | refine QB_out (by decide) ?_ | refine QL_next ?_ | refine QL_exit ?_ | refine QL_ret ?_ | refine QL_out (by decide) ?_ | (show Fin _ _ .ret _; exact Fin_ret (by first | (simp [c38, noP, bs0]; done) | (simp [c38, noP, bs0]; with_reducible rfl))) | (show Fin _ _ .normal _; exact Fin_end (by first | (simp [c38, noP, bs0]; done) | (simp [c38, noP, bs0]; with_reducible rfl))))

theorem rdT_E4 (r : List Int) (e m : Int) (h : E4 e) : E4 (rdT r e m).2.2 := by
  have h1 := nxt_E4 r m
  unfold rdT
  split
  · exact h
  · split
    · exact h1
    · split
      · exact .inr (.inl rfl)
      · exact .inl rfl
theorem fail3_E4 (c : Bool) (e : Int) (h : E4 e) : E4 (fail3 c e) := by
  unfold fail3
  split
  · split
    · exact .inr (.inr (.inl rfl))
    · exact h
  · exact h
theorem rdB_E4 (c : Bool) (r : List Int) (e : Int) (h : E4 e) : E4 (rdB c r e).2.2 := by
  unfold rdB
  split
  · exact fail3_E4 _ _ (rdT_E4 _ _ _ h)
  · exact h
theorem parseP_E4 (x : List Int) : E4 (parseP x).2 := by
  unfold parseP
  split
  · refine endE_E4 _ _ ?_
    unfold readP
    exact rdB_E4 _ _ _ (rdH_E4 _ _ _ _ _ (rdH_E4 _ _ _ _ _ (rdL_E4 _ _ _ (fail3_E4 _ _ (rdN_E4 _ _ _ (rdN_E4 _ _ _ (rdL_E4 _ _ _ (.inl rfl))))))))
  · exact .inl rfl
theorem openP_wr (s : List Int) : IntKind.i64.wrap (openP s).2 = (openP s).2 := by
  unfold openP
  split
  · exact cutP_wr s
  · split
    · rfl
    · exact (parseP_E4 _).wr
theorem eq_self (p : Pk) : eqCs [0, 0, 0, 0, 0, 0, 2] (pk p) (pk p) = some true := by
  simp [eqCs]

theorem packOpens (s : List Int) (hs : ∀ a ∈ s, 0 ≤ a ∧ a ≤ 255) : F T 7 [.str (bs s)] [] = some (.bool true, []) := by
  refine F_W T7 ?_
  simp only [c7, c7_b, Lift.start]
  by_cases h1 : 1000 < s.length
  · have h1' : (1000 : Int) < s.length := by omega
    repeat (first | refine W_assoc ?_ | (show W _ (.seq (.region _ _) _) _ _; refine W_reg (by simp; with_reducible rfl) ?_) | (show R _ _ _ (_ :: _) _ _ _ _; refine R_op (by simp (maxSteps := 2000000) [h1, h1', V_works23]; with_reducible rfl) ?_) | (show R _ _ _ [] _ _ _ _; refine R_nil (by simp; with_reducible rfl) ?_) | (show W _ (.seq (.cond _ _ _) _) _ _; first | refine W_ct (by first | (simp [h1, h1', V_works23]; done) | fail) ?_ | refine W_cf (by first | (simp [h1, h1', V_works23]; done) | fail) ?_) | refine W_skip ?_ | refine W_bl (c := .seq _ _) ?_ | refine W_bl (c := .region _ _) ?_ | refine W_bl (c := .cond _ _ _) ?_ | refine W_bl (c := .block _ _) ?_ | refine W_rt ?_ | refine W_ex ?_ | refine W_end ?_ | refine W_tail (a := .region _ _) ?_ | refine W_tail (a := .cond _ _ _) ?_ | refine W_tail (a := .ret) ?_ | refine W_tail (a := .exit _) ?_ | refine W_tail (a := .block _ _) ?_ | refine QB_normal ?_ | refine QB_exit ?_ | refine QB_ret ?_ | refine QB_out (by decide) ?_ | refine QL_next ?_ | refine QL_exit ?_ | refine QL_ret ?_ | refine QL_out (by decide) ?_ | (show Fin _ _ .ret _; exact Fin_ret (by first | (simp [c7]; done) | (simp [c7]; with_reducible rfl))) | (show Fin _ _ .normal _; exact Fin_end (by first | (simp [c7]; done) | (simp [c7]; with_reducible rfl))))
  have h1' : ¬ (1000 : Int) < s.length := by omega
  have f1 := FV_of (F_POpen s hs (by omega))
  have f2 := FV_of (F_ROpen s hs (by omega))
  have vo := V_of (openP s).1
  have hw := openP_wr s
  have he := eq_self (openP s).1
  generalize openP s = q at *
  obtain ⟨⟨k, f, t, i, p, n, b⟩, e⟩ := q
  simp only [pk] at f1 f2 vo hw he
  simp at f1 f2 vo hw
  repeat (first | refine W_assoc ?_ | (show W _ (.seq (.region _ _) _) _ _; refine W_reg (by simp; with_reducible rfl) ?_) | (show R _ _ _ (_ :: _) _ _ _ _; refine R_op (by simp (maxSteps := 2000000) [h1, h1', f1, f2, vo, hw, he, V_works23]; with_reducible rfl) ?_) | (show R _ _ _ [] _ _ _ _; refine R_nil (by simp; with_reducible rfl) ?_) | (show W _ (.seq (.cond _ _ _) _) _ _; first | refine W_ct (by first | (simp [h1, h1', f1, f2, vo, hw, he, V_works23]; done) | fail) ?_ | refine W_cf (by first | (simp [h1, h1', f1, f2, vo, hw, he, V_works23]; done) | fail) ?_) | refine W_skip ?_ | refine W_bl (c := .seq _ _) ?_ | refine W_bl (c := .region _ _) ?_ | refine W_bl (c := .cond _ _ _) ?_ | refine W_bl (c := .block _ _) ?_ | refine W_rt ?_ | refine W_ex ?_ | refine W_end ?_ | refine W_tail (a := .region _ _) ?_ | refine W_tail (a := .cond _ _ _) ?_ | refine W_tail (a := .ret) ?_ | refine W_tail (a := .exit _) ?_ | refine W_tail (a := .block _ _) ?_ | refine QB_normal ?_ | refine QB_exit ?_ | refine QB_ret ?_ | refine QB_out (by decide) ?_ | refine QL_next ?_ | refine QL_exit ?_ | refine QL_ret ?_ | refine QL_out (by decide) ?_ | (show Fin _ _ .ret _; exact Fin_ret (by first | (simp [c7]; done) | (simp [c7]; with_reducible rfl))) | (show Fin _ _ .normal _; exact Fin_end (by first | (simp [c7]; done) | (simp [c7]; with_reducible rfl))))

end Go.Proofs.Ytnobgooojbppbac.Oct
