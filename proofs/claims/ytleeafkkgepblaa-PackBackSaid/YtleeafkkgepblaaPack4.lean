/- Packets: what is opened. -/
import Derived.Test.YtleeafkkgepblaaPack3
set_option linter.all false
set_option linter.unusedSimpArgs false
set_option maxRecDepth 100000
set_option maxHeartbeats 8000000
namespace Go.Proofs.Ytleeafkkgepblaa.Oct
open Go Go.RowKit Go.Proofs.Ytleeafkkgepblaa.Lift Go.Proofs.Ytleeafkkgepblaa.TPB Go.Proofs.Ytleeafkkgepblaa.Base Go.Proofs.Ytleeafkkgepblaa Go.Proofs.Ytleeafkkgepblaa.CrcC

theorem F_pleast {x : List Int} {lo n : Nat} (h : InR x lo n) (e m : Int) : F T 20 [.ref 0 0 0, .int .i64 m] [rv lo n e, rr x] = some (.int .i64 (rdL (x.drop lo) e m).1, [rv (lo + (rdL (x.drop lo) e m).2.1) (n - (rdL (x.drop lo) e m).2.1) (rdL (x.drop lo) e m).2.2, rr x]) := by
  have f1 := F_RNum h e m
  unfold rdL
  generalize rdN (x.drop lo) e m = q at *
  obtain ⟨a, k, c⟩ := q
  simp only [] at f1 ⊢
  have f2 := F_Fail x (lo + k) (n - k) c 3
  refine F_W T20 ?_
  simp only [c20, c20_b, Lift.start]
  by_cases ha : a = 0
  · rw [if_pos ha]
    subst ha
    repeat (first | refine W_assoc ?_ | (show W _ (.seq (.region _ _) _) _ _; refine W_reg (by simp; with_reducible rfl) ?_) | (show R _ _ _ (_ :: _) _ _ _ _; refine R_op (by simp (maxSteps := 2000000) [f1, f2]; with_reducible rfl) ?_) | (show R _ _ _ [] _ _ _ _; refine R_nil (by simp; with_reducible rfl) ?_) | (show W _ (.seq (.cond _ _ _) _) _ _; first | refine W_ct (by first | (simp [f1, f2]; done) | fail) ?_ | refine W_cf (by first | (simp [f1, f2]; done) | fail) ?_) | refine W_skip ?_ | refine W_bl (c := .seq _ _) ?_ | refine W_bl (c := .region _ _) ?_ | refine W_bl (c := .cond _ _ _) ?_ | refine W_bl (c := .block _ _) ?_ | refine W_rt ?_ | refine W_ex ?_ | refine W_end ?_ | refine W_tail (a := .region _ _) ?_ | refine W_tail (a := .cond _ _ _) ?_ | refine W_tail (a := .ret) ?_ | refine W_tail (a := .exit _) ?_ | refine W_tail (a := .block _ _) ?_ | refine QB_normal ?_ | refine QB_exit ?_ | refine QB_ret ?_ | refine QB_out (by decide) ?_ | refine QL_next ?_ | refine QL_exit ?_ | refine QL_ret ?_ | refine QL_out (by decide) ?_ | (show Fin _ _ .ret _; exact Fin_ret (by first | (simp [c20]; done) | (simp [c20]; with_reducible rfl))) | (show Fin _ _ .normal _; exact Fin_end (by first | (simp [c20]; done) | (simp [c20]; with_reducible rfl))))
  · rw [if_neg ha]
    repeat (first | refine W_assoc ?_ | (show W _ (.seq (.region _ _) _) _ _; refine W_reg (by simp; with_reducible rfl) ?_) | (show R _ _ _ (_ :: _) _ _ _ _; refine R_op (by simp (maxSteps := 2000000) [f1, f2, ha]; with_reducible rfl) ?_) | (show R _ _ _ [] _ _ _ _; refine R_nil (by simp; with_reducible rfl) ?_) | (show W _ (.seq (.cond _ _ _) _) _ _; first | refine W_ct (by first | (simp [f1, f2, ha]; done) | fail) ?_ | refine W_cf (by first | (simp [f1, f2, ha]; done) | fail) ?_) | refine W_skip ?_ | refine W_bl (c := .seq _ _) ?_ | refine W_bl (c := .region _ _) ?_ | refine W_bl (c := .cond _ _ _) ?_ | refine W_bl (c := .block _ _) ?_ | refine W_rt ?_ | refine W_ex ?_ | refine W_end ?_ | refine W_tail (a := .region _ _) ?_ | refine W_tail (a := .cond _ _ _) ?_ | refine W_tail (a := .ret) ?_ | refine W_tail (a := .exit _) ?_ | refine W_tail (a := .block _ _) ?_ | refine QB_normal ?_ | refine QB_exit ?_ | refine QB_ret ?_ | refine QB_out (by decide) ?_ | refine QL_next ?_ | refine QL_exit ?_ | refine QL_ret ?_ | refine QL_out (by decide) ?_ | (show Fin _ _ .ret _; exact Fin_ret (by first | (simp [c20]; done) | (simp [c20]; with_reducible rfl))) | (show Fin _ _ .normal _; exact Fin_end (by first | (simp [c20]; done) | (simp [c20]; with_reducible rfl))))

theorem rdT_le (r : List Int) (e m : Int) (hr : ∀ a ∈ r, 0 ≤ a ∧ a ≤ 255) : (rdT r e m).2.1 ≤ r.length := by
  have h1 := nxt_ok r m hr
  unfold rdT
  split
  · simp
  · split
    · simp
    · rename_i h3
      obtain ⟨g1, g2, g3, g4⟩ := h1 (by simpa using h3)
      split
      · simp
      · simp only []; omega

theorem rdN_top (r : List Int) (e m : Int) (hm : 0 ≤ m) (hr : ∀ a ∈ r, 0 ≤ a ∧ a ≤ 255) : 0 ≤ (rdN r e m).1 ∧ (rdN r e m).1 ≤ m := by
  by_cases h : (rdN r e m).2.2 = 0
  · obtain ⟨_, _, g1, g2⟩ := rdN_back r e m hm hr h
    exact ⟨g1, g2⟩
  · unfold rdN at *
    split
    · exact ⟨by simp, hm⟩
    · split
      · exact ⟨by simp, hm⟩
      · rename_i h1 h2
        rw [if_neg h1, if_neg h2] at h
        exact absurd rfl h

theorem fail3_t (e : Int) : fail3 true e = if e = 0 then 3 else e := rfl
theorem fail3_f (e : Int) : fail3 false e = e := rfl

theorem drop_rg {x : List Int} (n : Nat) (hx : (∀ a ∈ x, 0 ≤ a ∧ a ≤ 255) ∧ x.length ≤ 4096) : (∀ a ∈ x.drop n, 0 ≤ a ∧ a ≤ 255) ∧ (x.drop n).length ≤ 4096 :=
  ⟨fun a ha => hx.1 a (List.mem_of_mem_drop ha), by rw [List.length_drop]; have := hx.2; omega⟩

theorem rdH_tt (r : List Int) (e m : Int) : rdH true true r e m = rdL r e m := rfl

end Go.Proofs.Ytleeafkkgepblaa.Oct
