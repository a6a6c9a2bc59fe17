/- What the readers' code comes to: of bytes, by what is left and by the first error. -/
import Derived.Test.YtleeafkkgepblaaOctNum
set_option linter.all false
set_option linter.unusedSimpArgs false
set_option maxRecDepth 100000
set_option maxHeartbeats 4000000
namespace Go.Proofs.Ytleeafkkgepblaa.Oct
open Go Go.RowKit Go.Proofs.Ytleeafkkgepblaa.Lift Go.Proofs.Ytleeafkkgepblaa.TPB Go.Proofs.Ytleeafkkgepblaa.Base

/-- A reader: its variable, its row. -/
abbrev rv (lo n : Nat) (e : Int) : AObj := ⟨82, 3, true, [[.own 1 lo n, .int .i64 e, .bool true]], 0⟩
abbrev rr (x : List Int) : AObj := ⟨5, 1, false, enc (eInt .u8) x, 0⟩

theorem F_Fail (x : List Int) (lo n : Nat) (e c : Int) : F T 22 [.ref 0 0 0, .int .i64 c] [rv lo n e, rr x] = some (.tup [], [rv lo n (if e = 0 then c else e), rr x]) := by
  refine F_W T22 ?_
  simp only [c22, c22_b, Lift.start]
  by_cases h : e = 0
  · subst h
    rw [if_pos rfl]
    repeat (first | refine W_assoc ?_ | (show W _ (.seq (.region _ _) _) _ _; refine W_reg (by simp; with_reducible rfl) ?_) | (show R _ _ _ (_ :: _) _ _ _ _; refine R_op (by simp (maxSteps := 2000000); with_reducible rfl) ?_) | (show R _ _ _ [] _ _ _ _; refine R_nil (by simp; with_reducible rfl) ?_) | (show W _ (.seq (.cond _ _ _) _) _ _; first | refine W_ct (by first | (simp; done) | fail) ?_ | refine W_cf (by first | (simp; done) | fail) ?_) | refine W_skip ?_ | refine W_bl (c := .seq _ _) ?_ | refine W_bl (c := .region _ _) ?_ | refine W_bl (c := .cond _ _ _) ?_ | refine W_bl (c := .block _ _) ?_ | refine W_rt ?_ | refine W_ex ?_ | refine W_end ?_ | refine W_tail (a := .region _ _) ?_ | refine W_tail (a := .cond _ _ _) ?_ | refine W_tail (a := .ret) ?_ | refine W_tail (a := .exit _) ?_ | refine W_tail (a := .block _ _) ?_ | refine QB_normal ?_ | refine QB_exit ?_ | refine QB_ret ?_ | refine QB_out (by decide) ?_ | refine QL_next ?_ | refine QL_exit ?_ | refine QL_ret ?_ | refine QL_out (by decide) ?_ | (show Fin _ _ .ret _; exact Fin_ret (by first | (simp [c22]; done) | (simp [c22]; with_reducible rfl))) | (show Fin _ _ .normal _; exact Fin_end (by first | (simp [c22]; done) | (simp [c22]; with_reducible rfl))))
  · rw [if_neg h]
    repeat (first | refine W_assoc ?_ | (show W _ (.seq (.region _ _) _) _ _; refine W_reg (by simp; with_reducible rfl) ?_) | (show R _ _ _ (_ :: _) _ _ _ _; refine R_op (by simp (maxSteps := 2000000) [h]; with_reducible rfl) ?_) | (show R _ _ _ [] _ _ _ _; refine R_nil (by simp; with_reducible rfl) ?_) | (show W _ (.seq (.cond _ _ _) _) _ _; first | refine W_ct (by first | (simp [h]; done) | fail) ?_ | refine W_cf (by first | (simp [h]; done) | fail) ?_) | refine W_skip ?_ | refine W_bl (c := .seq _ _) ?_ | refine W_bl (c := .region _ _) ?_ | refine W_bl (c := .cond _ _ _) ?_ | refine W_bl (c := .block _ _) ?_ | refine W_rt ?_ | refine W_ex ?_ | refine W_end ?_ | refine W_tail (a := .region _ _) ?_ | refine W_tail (a := .cond _ _ _) ?_ | refine W_tail (a := .ret) ?_ | refine W_tail (a := .exit _) ?_ | refine W_tail (a := .block _ _) ?_ | refine QB_normal ?_ | refine QB_exit ?_ | refine QB_ret ?_ | refine QB_out (by decide) ?_ | refine QL_next ?_ | refine QL_exit ?_ | refine QL_ret ?_ | refine QL_out (by decide) ?_ | (show Fin _ _ .ret _; exact Fin_ret (by first | (simp [c22]; done) | (simp [c22]; with_reducible rfl))) | (show Fin _ _ .normal _; exact Fin_end (by first | (simp [c22]; done) | (simp [c22]; with_reducible rfl))))

theorem F_most (x : List Int) (lo n : Nat) (a m : Int) : F T 53 [.ref 0 0 0, .int .i64 a, .int .i64 m] [rv lo n 0, rr x] = some (.int .i64 (if m < a ∧ 0 < a then 0 else a), [rv lo n (if m < a ∧ 0 < a then 4 else 0), rr x]) := by
  have hF := F_Fail x lo n 0 4
  rw [if_pos rfl] at hF
  refine F_W T53 ?_
  simp only [c53, c53_b, Lift.start]
  by_cases h : (if m < 0 then 0 else m) < a
  · have h' : m < a ∧ 0 < a := by split at h <;> omega
    rw [if_pos h', if_pos h']
    repeat (first | refine W_assoc ?_ | (show W _ (.seq (.region _ _) _) _ _; refine W_reg (by simp; with_reducible rfl) ?_) | (show R _ _ _ (_ :: _) _ _ _ _; refine R_op (by simp (maxSteps := 2000000) [h, hF]; with_reducible rfl) ?_) | (show R _ _ _ [] _ _ _ _; refine R_nil (by simp; with_reducible rfl) ?_) | (show W _ (.seq (.cond _ _ _) _) _ _; first | refine W_ct (by first | (simp [h, hF]; done) | fail) ?_ | refine W_cf (by first | (simp [h, hF]; done) | fail) ?_) | refine W_skip ?_ | refine W_bl (c := .seq _ _) ?_ | refine W_bl (c := .region _ _) ?_ | refine W_bl (c := .cond _ _ _) ?_ | refine W_bl (c := .block _ _) ?_ | refine W_rt ?_ | refine W_ex ?_ | refine W_end ?_ | refine W_tail (a := .region _ _) ?_ | refine W_tail (a := .cond _ _ _) ?_ | refine W_tail (a := .ret) ?_ | refine W_tail (a := .exit _) ?_ | refine W_tail (a := .block _ _) ?_ | refine QB_normal ?_ | refine QB_exit ?_ | refine QB_ret ?_ | refine QB_out (by decide) ?_ | refine QL_next ?_ | refine QL_exit ?_ | refine QL_ret ?_ | refine QL_out (by decide) ?_ | (show Fin _ _ .ret _; exact Fin_ret (by first | (simp [c53]; done) | (simp [c53]; with_reducible rfl))) | (show Fin _ _ .normal _; exact Fin_end (by first | (simp [c53]; done) | (simp [c53]; with_reducible rfl))))
  · have h' : ¬ (m < a ∧ 0 < a) := by split at h <;> omega
    rw [if_neg h', if_neg h']
    repeat (first | refine W_assoc ?_ | (show W _ (.seq (.region _ _) _) _ _; refine W_reg (by simp; with_reducible rfl) ?_) | (show R _ _ _ (_ :: _) _ _ _ _; refine R_op (by simp (maxSteps := 2000000) [h, hF]; with_reducible rfl) ?_) | (show R _ _ _ [] _ _ _ _; refine R_nil (by simp; with_reducible rfl) ?_) | (show W _ (.seq (.cond _ _ _) _) _ _; first | refine W_ct (by first | (simp [h, hF]; done) | fail) ?_ | refine W_cf (by first | (simp [h, hF]; done) | fail) ?_) | refine W_skip ?_ | refine W_bl (c := .seq _ _) ?_ | refine W_bl (c := .region _ _) ?_ | refine W_bl (c := .cond _ _ _) ?_ | refine W_bl (c := .block _ _) ?_ | refine W_rt ?_ | refine W_ex ?_ | refine W_end ?_ | refine W_tail (a := .region _ _) ?_ | refine W_tail (a := .cond _ _ _) ?_ | refine W_tail (a := .ret) ?_ | refine W_tail (a := .exit _) ?_ | refine W_tail (a := .block _ _) ?_ | refine QB_normal ?_ | refine QB_exit ?_ | refine QB_ret ?_ | refine QB_out (by decide) ?_ | refine QL_next ?_ | refine QL_exit ?_ | refine QL_ret ?_ | refine QL_out (by decide) ?_ | (show Fin _ _ .ret _; exact Fin_ret (by first | (simp [c53]; done) | (simp [c53]; with_reducible rfl))) | (show Fin _ _ .normal _; exact Fin_end (by first | (simp [c53]; done) | (simp [c53]; with_reducible rfl))))

theorem look_loop (x : List Int) (lo n : Nat) (m : Int) (hx : ∀ a ∈ x, 0 ≤ a ∧ a ≤ 255) (hlo : lo + n = x.length) (hn : x.length < 100000) (w : Nat) (hw : w ≤ 7) (hw1 : 1 + w ≤ n) (b : SCode) (Q : AEx → ASt → Prop) (v : Int)
    (hQ : W T b ⟨[.ref 0 0 0, .int .i64 m, .top, .top, .top, .top, .top, .int .i64 w, .int .i64 v, .top, .top, .top, .top, .top, .top, .top, .top, .top, .top, .top, .top, .top, .top, .top, .top, .top, .top, .top, .top, .top, .top, .top, .top, .top, .top, .top, .top, .top, .top, .top, .top, .top, .top, .top, .top, .top, .top, .top, .top, .top, .int .i64 w, .int .i64 w, .bool false, .top, .top, .top, .top, .top, .top, .top, .top, .top, .top, .top, .top, .top, .top, .top, .top, .top, .top, .top, .top, .top, .top, .top, .top, .top, .top, .top, .top, .top, .top], [(0, rv lo n 0), (1, rr x)], 66, 2⟩ Q) :
    ∀ (k i : Nat) (a : Int) (st : ASt), i + k = w → 0 ≤ a → a < 256 ^ i → v = valI a ((x.drop (lo + 1 + i)).take k) → canon [0, 1, 7, 8, 50, 51] st = ⟨[.ref 0 0 0, .int .i64 m, .top, .top, .top, .top, .top, .int .i64 w, .int .i64 a, .top, .top, .top, .top, .top, .top, .top, .top, .top, .top, .top, .top, .top, .top, .top, .top, .top, .top, .top, .top, .top, .top, .top, .top, .top, .top, .top, .top, .top, .top, .top, .top, .top, .top, .top, .top, .top, .top, .top, .top, .top, .int .i64 w, .int .i64 i, .top, .top, .top, .top, .top, .top, .top, .top, .top, .top, .top, .top, .top, .top, .top, .top, .top, .top, .top, .top, .top, .top, .top, .top, .top, .top, .top, .top, .top, .top, .top], [(0, rv lo n 0), (1, rr x)], 2, 2⟩ →
    W T (.seq (.block 1 (.loop [0, 1, 7, 8, 50, 51] c47_l0)) b) st Q := by
  intro k
  induction k with
  | zero =>
    intro i a st h1 h2 h3 hv hc
    obtain rfl : i = w := by omega
    have h : ¬ (i : Int) < i := by omega
    have hv : v = a := by rw [hv]; simp [valI]
    subst hv
    refine W_round hc ?_
    unfold c47_l0
    repeat (first | refine W_assoc ?_ | (show W _ (.seq (.region _ _) _) _ _; refine W_reg (by simp; with_reducible rfl) ?_) | (show R _ _ _ (_ :: _) _ _ _ _; refine R_op (by simp (maxSteps := 2000000) [h]; with_reducible rfl) ?_) | (show R _ _ _ [] _ _ _ _; refine R_nil (by simp; with_reducible rfl) ?_) | (show W _ (.seq (.cond _ _ _) _) _ _; first | refine W_ct (by first | (simp [h]; done) | fail) ?_ | refine W_cf (by first | (simp [h]; done) | fail) ?_) | refine W_skip ?_ | refine W_bl (c := .seq _ _) ?_ | refine W_bl (c := .region _ _) ?_ | refine W_bl (c := .cond _ _ _) ?_ | refine W_bl (c := .block _ _) ?_ | refine W_rt ?_ | refine W_ex ?_ | refine W_end ?_ | refine W_tail (a := .region _ _) ?_ | refine W_tail (a := .cond _ _ _) ?_ | refine W_tail (a := .ret) ?_ | refine W_tail (a := .exit _) ?_ | refine W_tail (a := .block _ _) ?_ | refine QB_normal ?_ | refine QB_exit ?_ | refine QB_ret ?_ | refine QB_out (by decide) ?_ | refine QL_next ?_ | refine QL_exit ?_ | refine QL_ret ?_ | refine QL_out (by decide) ?_ | (show Fin _ _ .ret _; exact Fin_ret (by first | (simp; done) | (simp; with_reducible rfl))) | (show Fin _ _ .normal _; exact Fin_end (by first | (simp; done) | (simp; with_reducible rfl))))
    exact hQ
  | succ k ih =>
    intro i a st h1 h2 h3 hv hc
    have hi : i < w := by omega
    have hi' : (i : Int) < w := by omega
    have hl : lo + (1 + i) < x.length := by omega
    have e0 : (256 : Int) ^ i ≤ 256 ^ 6 := by exact_mod_cast Nat.pow_le_pow_right (by omega) (by omega : i ≤ 6)
    have e1 : IntKind.i64.wrap (1 + (i : Int)) = 1 + (i : Int) := wrap_id _ (by omega) (by omega)
    have e3 : (1 + (i : Int)).toNat = 1 + i := by omega
    have e1' : IntKind.i64.wrap ((i : Int) + 1) = (i : Int) + 1 := wrap_id _ (by omega) (by omega)
    have e2 : (0 : Int) ≤ 1 + (i : Int) := by omega
    have e2' : 1 + (i : Int) < n := by omega
    have hb := hx _ (List.getElem_mem hl)
    have e4 : IntKind.i64.wrap x[lo + (1 + i)] = x[lo + (1 + i)] := wrap_id _ (by omega) (by omega)
    have e6 : IntKind.i64.wrap (a * 256) = a * 256 := wrap_id _ (by omega) (by omega)
    have e7 : IntKind.i64.bits = 64 := rfl
    have e8 := or_add a x[lo + (1 + i)] h2 (by omega) hb.1 (by omega)
    have hp : (256 : Int) ^ (i + 1) = 256 ^ i * 256 := Int.pow_succ _ _
    have e9 : (x.drop (lo + 1 + i)).take (k + 1) = x[lo + (1 + i)] :: (x.drop (lo + 1 + (i + 1))).take k := by
      rw [List.drop_eq_getElem_cons (by omega), List.take_succ_cons]
      simp [Nat.add_assoc]
    rw [e9] at hv
    have hv' : v = valI (a * 256 + x[lo + (1 + i)]) ((x.drop (lo + 1 + (i + 1))).take k) := hv
    have hy : ∃ y, y = x[lo + (1 + i)] := ⟨_, rfl⟩
    obtain ⟨y, hy⟩ := hy
    rw [← hy] at e4 e8 hv' hb
    refine W_round hc ?_
    unfold c47_l0
    repeat (first | refine W_assoc ?_ | (show W _ (.seq (.region _ _) _) _ _; refine W_reg (by simp; with_reducible rfl) ?_) | (show R _ _ _ (_ :: _) _ _ _ _; refine R_op (by simp (maxSteps := 2000000) [hi', hl, e1, e1', e2, e2', e3, e4, e6, e7, ← hy, e8]; with_reducible rfl) ?_) | (show R _ _ _ [] _ _ _ _; refine R_nil (by simp; with_reducible rfl) ?_) | (show W _ (.seq (.cond _ _ _) _) _ _; first | refine W_ct (by first | (simp [hi', hl, e1, e1', e2, e2', e3, e4, e6, e7, ← hy, e8]; done) | fail) ?_ | refine W_cf (by first | (simp [hi', hl, e1, e1', e2, e2', e3, e4, e6, e7, ← hy, e8]; done) | fail) ?_) | refine W_skip ?_ | refine W_bl (c := .seq _ _) ?_ | refine W_bl (c := .region _ _) ?_ | refine W_bl (c := .cond _ _ _) ?_ | refine W_bl (c := .block _ _) ?_ | refine W_rt ?_ | refine W_ex ?_ | refine W_end ?_ | refine W_tail (a := .region _ _) ?_ | refine W_tail (a := .cond _ _ _) ?_ | refine W_tail (a := .ret) ?_ | refine W_tail (a := .exit _) ?_ | refine W_tail (a := .block _ _) ?_ | refine QB_normal ?_ | refine QB_exit ?_ | refine QB_ret ?_ | refine QB_out (by decide) ?_ | refine QL_next ?_ | refine QL_exit ?_ | refine QL_ret ?_ | refine QL_out (by decide) ?_ | (show Fin _ _ .ret _; exact Fin_ret (by first | (simp; done) | (simp; with_reducible rfl))) | (show Fin _ _ .normal _; exact Fin_end (by first | (simp; done) | (simp; with_reducible rfl))))
    refine ih (i + 1) (a * 256 + y) _ ?_ ?_ ?_ hv' ?_
    · omega
    · omega
    · omega
    · simp

theorem F_look (x : List Int) (lo n : Nat) (m : Int) (hx : ∀ a ∈ x, 0 ≤ a ∧ a ≤ 255) (hlo : lo + n = x.length) (hn : x.length < 100000) : ∃ w : Int, F T 47 [.ref 0 0 0, .int .i64 m] [rv lo n 0, rr x] = some (.tup [.int .i64 (nxt (x.drop lo) m).1, .int .i64 w], [rv lo n (nxt (x.drop lo) m).2.2, rr x]) ∧ ((nxt (x.drop lo) m).2.2 = 0 → w = (nxt (x.drop lo) m).2.1) := by
  have f2 := F_Fail x lo n 0 2
  have f3 := F_Fail x lo n 0 3
  rw [if_pos rfl] at f2 f3
  have fm := fun a => F_most x lo n a m
  by_cases h0 : n = 0
  · have e : x.drop lo = [] := List.drop_eq_nil_of_le (by omega)
    subst h0
    rw [e]
    refine ⟨0, ?_, by simp [nxt]⟩
    simp only [nxt]
    refine F_W T47 ?_
    simp only [c47, c47_b, Lift.start]
    repeat (first | refine W_assoc ?_ | (show W _ (.seq (.region _ _) _) _ _; refine W_reg (by simp; with_reducible rfl) ?_) | (show R _ _ _ (_ :: _) _ _ _ _; refine R_op (by simp (maxSteps := 2000000) [f2]; with_reducible rfl) ?_) | (show R _ _ _ [] _ _ _ _; refine R_nil (by simp; with_reducible rfl) ?_) | (show W _ (.seq (.cond _ _ _) _) _ _; first | refine W_ct (by first | (simp [f2]; done) | fail) ?_ | refine W_cf (by first | (simp [f2]; done) | fail) ?_) | refine W_skip ?_ | refine W_bl (c := .seq _ _) ?_ | refine W_bl (c := .region _ _) ?_ | refine W_bl (c := .cond _ _ _) ?_ | refine W_bl (c := .block _ _) ?_ | refine W_rt ?_ | refine W_ex ?_ | refine W_end ?_ | refine W_tail (a := .region _ _) ?_ | refine W_tail (a := .cond _ _ _) ?_ | refine W_tail (a := .ret) ?_ | refine W_tail (a := .exit _) ?_ | refine W_tail (a := .block _ _) ?_ | refine QB_normal ?_ | refine QB_exit ?_ | refine QB_ret ?_ | refine QB_out (by decide) ?_ | refine QL_next ?_ | refine QL_exit ?_ | refine QL_ret ?_ | refine QL_out (by decide) ?_ | (show Fin _ _ .ret _; exact Fin_ret (by first | (simp [c47]; done) | (simp [c47]; with_reducible rfl))) | (show Fin _ _ .normal _; exact Fin_end (by first | (simp [c47]; done) | (simp [c47]; with_reducible rfl))))
  · have hl : lo < x.length := by omega
    have hp : 0 < n := by omega
    have e : x.drop lo = x[lo] :: x.drop (lo + 1) := List.drop_eq_getElem_cons hl
    have hb := hx _ (List.getElem_mem hl)
    have hnxt : nxt (x.drop lo) m = nxt (x[lo] :: x.drop (lo + 1)) m := by rw [e]
    have e1 : IntKind.i64.wrap x[lo] = x[lo] := wrap_id _ (by omega) (by omega)
    rw [hnxt]
    have hn0 : ¬ (n : Int) = 0 := by omega
    have hp' : (0 : Int) < n := by omega
    by_cases h1 : x[lo] < 248
    · have hr : nxt (x[lo] :: x.drop (lo + 1)) m = capped x[lo] m 1 := by simp only [nxt]; rw [if_pos h1]
      rw [hr]
      refine ⟨1, ?_, by simp only [capped]; split <;> simp⟩
      have hfm := fm x[lo]
      unfold capped
      by_cases hc : m < x[lo] ∧ 0 < x[lo]
      · rw [if_pos hc, if_pos hc] at hfm
        rw [if_pos hc]
        refine F_W T47 ?_
        simp only [c47, c47_b, Lift.start]
        repeat (first | refine W_assoc ?_ | (show W _ (.seq (.region _ _) _) _ _; refine W_reg (by simp; with_reducible rfl) ?_) | (show R _ _ _ (_ :: _) _ _ _ _; refine R_op (by simp (maxSteps := 2000000) [h0, hp, hp', hn0, hl, e1, h1, hfm]; with_reducible rfl) ?_) | (show R _ _ _ [] _ _ _ _; refine R_nil (by simp; with_reducible rfl) ?_) | (show W _ (.seq (.cond _ _ _) _) _ _; first | refine W_ct (by first | (simp [h0, hp, hp', hn0, hl, e1, h1, hfm]; done) | fail) ?_ | refine W_cf (by first | (simp [h0, hp, hp', hn0, hl, e1, h1, hfm]; done) | fail) ?_) | refine W_skip ?_ | refine W_bl (c := .seq _ _) ?_ | refine W_bl (c := .region _ _) ?_ | refine W_bl (c := .cond _ _ _) ?_ | refine W_bl (c := .block _ _) ?_ | refine W_rt ?_ | refine W_ex ?_ | refine W_end ?_ | refine W_tail (a := .region _ _) ?_ | refine W_tail (a := .cond _ _ _) ?_ | refine W_tail (a := .ret) ?_ | refine W_tail (a := .exit _) ?_ | refine W_tail (a := .block _ _) ?_ | refine QB_normal ?_ | refine QB_exit ?_ | refine QB_ret ?_ | refine QB_out (by decide) ?_ | refine QL_next ?_ | refine QL_exit ?_ | refine QL_ret ?_ | refine QL_out (by decide) ?_ | (show Fin _ _ .ret _; exact Fin_ret (by first | (simp [c47]; done) | (simp [c47]; with_reducible rfl))) | (show Fin _ _ .normal _; exact Fin_end (by first | (simp [c47]; done) | (simp [c47]; with_reducible rfl))))
      · rw [if_neg hc, if_neg hc] at hfm
        rw [if_neg hc]
        refine F_W T47 ?_
        simp only [c47, c47_b, Lift.start]
        repeat (first | refine W_assoc ?_ | (show W _ (.seq (.region _ _) _) _ _; refine W_reg (by simp; with_reducible rfl) ?_) | (show R _ _ _ (_ :: _) _ _ _ _; refine R_op (by simp (maxSteps := 2000000) [h0, hp, hp', hn0, hl, e1, h1, hfm]; with_reducible rfl) ?_) | (show R _ _ _ [] _ _ _ _; refine R_nil (by simp; with_reducible rfl) ?_) | (show W _ (.seq (.cond _ _ _) _) _ _; first | refine W_ct (by first | (simp [h0, hp, hp', hn0, hl, e1, h1, hfm]; done) | fail) ?_ | refine W_cf (by first | (simp [h0, hp, hp', hn0, hl, e1, h1, hfm]; done) | fail) ?_) | refine W_skip ?_ | refine W_bl (c := .seq _ _) ?_ | refine W_bl (c := .region _ _) ?_ | refine W_bl (c := .cond _ _ _) ?_ | refine W_bl (c := .block _ _) ?_ | refine W_rt ?_ | refine W_ex ?_ | refine W_end ?_ | refine W_tail (a := .region _ _) ?_ | refine W_tail (a := .cond _ _ _) ?_ | refine W_tail (a := .ret) ?_ | refine W_tail (a := .exit _) ?_ | refine W_tail (a := .block _ _) ?_ | refine QB_normal ?_ | refine QB_exit ?_ | refine QB_ret ?_ | refine QB_out (by decide) ?_ | refine QL_next ?_ | refine QL_exit ?_ | refine QL_ret ?_ | refine QL_out (by decide) ?_ | (show Fin _ _ .ret _; exact Fin_ret (by first | (simp [c47]; done) | (simp [c47]; with_reducible rfl))) | (show Fin _ _ .normal _; exact Fin_end (by first | (simp [c47]; done) | (simp [c47]; with_reducible rfl))))
    · obtain ⟨w, hw, hw1, hw8⟩ : ∃ w : Nat, x[lo] = w + 247 ∧ 1 ≤ w ∧ w ≤ 8 := ⟨(x[lo] - 247).toNat, by omega, by omega, by omega⟩
      have e2 : IntKind.i64.wrap (x[lo] - 248) = x[lo] - 248 := wrap_id _ (by omega) (by omega)
      have e3 : IntKind.i64.wrap (x[lo] - 248 + 1) = w := by rw [wrap_id _ (by omega) (by omega)]; omega
      have e4 : IntKind.i64.wrap (1 + (w : Int)) = 1 + (w : Int) := wrap_id _ (by omega) (by omega)
      have e5 : (x[lo] - 247).toNat = w := by omega
      have e6 : x[lo] - 247 = (w : Int) := by omega
      have htl : (x.drop (lo + 1)).length = n - 1 := by rw [List.length_drop]; omega
      by_cases h7 : (7 : Int) < w
      · have h255 : x[lo] = 255 := by omega
        have hr : nxt (x[lo] :: x.drop (lo + 1)) m = (0, 0, 3) := by simp [nxt, h255]
        rw [hr]
        refine ⟨0, ?_, by simp⟩
        refine F_W T47 ?_
        simp only [c47, c47_b, Lift.start]
        repeat (first | refine W_assoc ?_ | (show W _ (.seq (.region _ _) _) _ _; refine W_reg (by simp; with_reducible rfl) ?_) | (show R _ _ _ (_ :: _) _ _ _ _; refine R_op (by simp (maxSteps := 2000000) [h0, hp, hp', hn0, hl, e1, h1, e2, e3, h7, f3]; with_reducible rfl) ?_) | (show R _ _ _ [] _ _ _ _; refine R_nil (by simp; with_reducible rfl) ?_) | (show W _ (.seq (.cond _ _ _) _) _ _; first | refine W_ct (by first | (simp [h0, hp, hp', hn0, hl, e1, h1, e2, e3, h7, f3]; done) | fail) ?_ | refine W_cf (by first | (simp [h0, hp, hp', hn0, hl, e1, h1, e2, e3, h7, f3]; done) | fail) ?_) | refine W_skip ?_ | refine W_bl (c := .seq _ _) ?_ | refine W_bl (c := .region _ _) ?_ | refine W_bl (c := .cond _ _ _) ?_ | refine W_bl (c := .block _ _) ?_ | refine W_rt ?_ | refine W_ex ?_ | refine W_end ?_ | refine W_tail (a := .region _ _) ?_ | refine W_tail (a := .cond _ _ _) ?_ | refine W_tail (a := .ret) ?_ | refine W_tail (a := .exit _) ?_ | refine W_tail (a := .block _ _) ?_ | refine QB_normal ?_ | refine QB_exit ?_ | refine QB_ret ?_ | refine QB_out (by decide) ?_ | refine QL_next ?_ | refine QL_exit ?_ | refine QL_ret ?_ | refine QL_out (by decide) ?_ | (show Fin _ _ .ret _; exact Fin_ret (by first | (simp [c47]; done) | (simp [c47]; with_reducible rfl))) | (show Fin _ _ .normal _; exact Fin_end (by first | (simp [c47]; done) | (simp [c47]; with_reducible rfl))))
      · have h255 : ¬ x[lo] = 255 := by omega
        by_cases h8 : (n : Int) < 1 + w
        · have h9 : ((x.drop (lo + 1)).length : Int) < x[lo] - 247 := by omega
          have hr : nxt (x[lo] :: x.drop (lo + 1)) m = (0, 0, 2) := by rw [nxt.eq_def]; simp only []; rw [if_neg h1, if_neg h255, if_pos h9]
          rw [hr]
          refine ⟨0, ?_, by simp⟩
          refine F_W T47 ?_
          simp only [c47, c47_b, Lift.start]
          repeat (first | refine W_assoc ?_ | (show W _ (.seq (.region _ _) _) _ _; refine W_reg (by simp; with_reducible rfl) ?_) | (show R _ _ _ (_ :: _) _ _ _ _; refine R_op (by simp (maxSteps := 2000000) [h0, hp, hp', hn0, hl, e1, h1, e2, e3, e4, h7, h8, f2]; with_reducible rfl) ?_) | (show R _ _ _ [] _ _ _ _; refine R_nil (by simp; with_reducible rfl) ?_) | (show W _ (.seq (.cond _ _ _) _) _ _; first | refine W_ct (by first | (simp [h0, hp, hp', hn0, hl, e1, h1, e2, e3, e4, h7, h8, f2]; done) | fail) ?_ | refine W_cf (by first | (simp [h0, hp, hp', hn0, hl, e1, h1, e2, e3, e4, h7, h8, f2]; done) | fail) ?_) | refine W_skip ?_ | refine W_bl (c := .seq _ _) ?_ | refine W_bl (c := .region _ _) ?_ | refine W_bl (c := .cond _ _ _) ?_ | refine W_bl (c := .block _ _) ?_ | refine W_rt ?_ | refine W_ex ?_ | refine W_end ?_ | refine W_tail (a := .region _ _) ?_ | refine W_tail (a := .cond _ _ _) ?_ | refine W_tail (a := .ret) ?_ | refine W_tail (a := .exit _) ?_ | refine W_tail (a := .block _ _) ?_ | refine QB_normal ?_ | refine QB_exit ?_ | refine QB_ret ?_ | refine QB_out (by decide) ?_ | refine QL_next ?_ | refine QL_exit ?_ | refine QL_ret ?_ | refine QL_out (by decide) ?_ | (show Fin _ _ .ret _; exact Fin_ret (by first | (simp [c47]; done) | (simp [c47]; with_reducible rfl))) | (show Fin _ _ .normal _; exact Fin_end (by first | (simp [c47]; done) | (simp [c47]; with_reducible rfl))))
        · have h9 : ¬ ((x.drop (lo + 1)).length : Int) < x[lo] - 247 := by omega
          have hv0 := valI_bound ((x.drop (lo + 1)).take w) (fun d hd => hx d (List.mem_of_mem_drop (List.mem_of_mem_take hd))) 0 (by omega)
          have hv1 : (256 : Int) ^ ((x.drop (lo + 1)).take w).length ≤ 256 ^ 7 := by
            have : ((x.drop (lo + 1)).take w).length ≤ 7 := by rw [List.length_take]; omega
            exact_mod_cast Nat.pow_le_pow_right (by omega) this
          have hr : nxt (x[lo] :: x.drop (lo + 1)) m = if valI 0 ((x.drop (lo + 1)).take w) < 248 ∨ ((dig (valI 0 ((x.drop (lo + 1)).take w)).toNat).length : Int) ≠ w then (0, 0, 3) else capped (valI 0 ((x.drop (lo + 1)).take w)) m (1 + w) := by
            rw [nxt.eq_def]; simp only []; rw [if_neg h1, if_neg h255, if_neg h9, e5, e6]
          rw [hr]
          have hv : ∃ a, a = valI 0 ((x.drop (lo + 1)).take w) := ⟨_, rfl⟩
          obtain ⟨a, hv⟩ := hv
          rw [← hv] at hv0
          rw [← hv]
          obtain ⟨p, rfl⟩ : ∃ p : Nat, a = p := ⟨a.toNat, by omega⟩
          have hp1 : p < 72057594037927936 := by omega
          have f29 := V_width p hp1
          rw [Int.toNat_natCast]
          by_cases h10 : (p : Int) < 248
          · rw [if_pos (.inl h10)]
            refine ⟨0, ?_, by simp⟩
            refine F_W T47 ?_
            simp only [c47, c47_b, Lift.start]
            repeat (first | refine W_assoc ?_ | (show W _ (.seq (.region _ _) _) _ _; refine W_reg (by simp; with_reducible rfl) ?_) | (show R _ _ _ (_ :: _) _ _ _ _; refine R_op (by simp (maxSteps := 2000000) [h0, hp, hp', hn0, hl, e1, h1, e2, e3, e4, h7, h8]; with_reducible rfl) ?_) | (show R _ _ _ [] _ _ _ _; refine R_nil (by simp; with_reducible rfl) ?_) | (show W _ (.seq (.cond _ _ _) _) _ _; first | refine W_ct (by first | (simp [h0, hp, hp', hn0, hl, e1, h1, e2, e3, e4, h7, h8]; done) | fail) ?_ | refine W_cf (by first | (simp [h0, hp, hp', hn0, hl, e1, h1, e2, e3, e4, h7, h8]; done) | fail) ?_) | refine W_skip ?_ | refine W_bl (c := .seq _ _) ?_ | refine W_bl (c := .region _ _) ?_ | refine W_bl (c := .cond _ _ _) ?_ | refine W_bl (c := .block _ _) ?_ | refine W_rt ?_ | refine W_ex ?_ | refine W_end ?_ | refine W_tail (a := .region _ _) ?_ | refine W_tail (a := .cond _ _ _) ?_ | refine W_tail (a := .ret) ?_ | refine W_tail (a := .exit _) ?_ | refine W_tail (a := .block _ _) ?_ | refine QB_normal ?_ | refine QB_exit ?_ | refine QB_ret ?_ | refine QB_out (by decide) ?_ | refine QL_next ?_ | refine QL_exit ?_ | refine QL_ret ?_ | refine QL_out (by decide) ?_ | (show Fin _ _ .ret _; exact Fin_ret (by first | (simp; done) | (simp; with_reducible rfl))) | (show Fin _ _ .normal _; exact Fin_end (by first | (simp; done) | (simp; with_reducible rfl))))
            refine look_loop x lo n m hx hlo hn w (by omega) (by omega) _ _ p ?_ w 0 0 _ ?_ ?_ ?_ ?_ ?_
            · repeat (first | refine W_assoc ?_ | (show W _ (.seq (.region _ _) _) _ _; refine W_reg (by simp; with_reducible rfl) ?_) | (show R _ _ _ (_ :: _) _ _ _ _; refine R_op (by simp (maxSteps := 2000000) [h10, f3]; with_reducible rfl) ?_) | (show R _ _ _ [] _ _ _ _; refine R_nil (by simp; with_reducible rfl) ?_) | (show W _ (.seq (.cond _ _ _) _) _ _; first | refine W_ct (by first | (simp [h10, f3]; done) | fail) ?_ | refine W_cf (by first | (simp [h10, f3]; done) | fail) ?_) | refine W_skip ?_ | refine W_bl (c := .seq _ _) ?_ | refine W_bl (c := .region _ _) ?_ | refine W_bl (c := .cond _ _ _) ?_ | refine W_bl (c := .block _ _) ?_ | refine W_rt ?_ | refine W_ex ?_ | refine W_end ?_ | refine W_tail (a := .region _ _) ?_ | refine W_tail (a := .cond _ _ _) ?_ | refine W_tail (a := .ret) ?_ | refine W_tail (a := .exit _) ?_ | refine W_tail (a := .block _ _) ?_ | refine QB_normal ?_ | refine QB_exit ?_ | refine QB_ret ?_ | refine QB_out (by decide) ?_ | refine QL_next ?_ | refine QL_exit ?_ | refine QL_ret ?_ | refine QL_out (by decide) ?_ | (show Fin _ _ .ret _; exact Fin_ret (by first | (simp [c47]; done) | (simp [c47]; with_reducible rfl))) | (show Fin _ _ .normal _; exact Fin_end (by first | (simp [c47]; done) | (simp [c47]; with_reducible rfl))))
            · omega
            · omega
            · simp
            · rw [Nat.add_zero]; exact hv
            · simp
          · by_cases h11 : ((dig p).length : Int) = w
            · rw [if_neg (by rintro (h | h); exact h10 h; exact h h11)]
              refine ⟨1 + w, ?_, by simp only [capped]; split <;> simp⟩
              refine F_W T47 ?_
              simp only [c47, c47_b, Lift.start]
              repeat (first | refine W_assoc ?_ | (show W _ (.seq (.region _ _) _) _ _; refine W_reg (by simp; with_reducible rfl) ?_) | (show R _ _ _ (_ :: _) _ _ _ _; refine R_op (by simp (maxSteps := 2000000) [h0, hp, hp', hn0, hl, e1, h1, e2, e3, e4, h7, h8]; with_reducible rfl) ?_) | (show R _ _ _ [] _ _ _ _; refine R_nil (by simp; with_reducible rfl) ?_) | (show W _ (.seq (.cond _ _ _) _) _ _; first | refine W_ct (by first | (simp [h0, hp, hp', hn0, hl, e1, h1, e2, e3, e4, h7, h8]; done) | fail) ?_ | refine W_cf (by first | (simp [h0, hp, hp', hn0, hl, e1, h1, e2, e3, e4, h7, h8]; done) | fail) ?_) | refine W_skip ?_ | refine W_bl (c := .seq _ _) ?_ | refine W_bl (c := .region _ _) ?_ | refine W_bl (c := .cond _ _ _) ?_ | refine W_bl (c := .block _ _) ?_ | refine W_rt ?_ | refine W_ex ?_ | refine W_end ?_ | refine W_tail (a := .region _ _) ?_ | refine W_tail (a := .cond _ _ _) ?_ | refine W_tail (a := .ret) ?_ | refine W_tail (a := .exit _) ?_ | refine W_tail (a := .block _ _) ?_ | refine QB_normal ?_ | refine QB_exit ?_ | refine QB_ret ?_ | refine QB_out (by decide) ?_ | refine QL_next ?_ | refine QL_exit ?_ | refine QL_ret ?_ | refine QL_out (by decide) ?_ | (show Fin _ _ .ret _; exact Fin_ret (by first | (simp; done) | (simp; with_reducible rfl))) | (show Fin _ _ .normal _; exact Fin_end (by first | (simp; done) | (simp; with_reducible rfl))))
              refine look_loop x lo n m hx hlo hn w (by omega) (by omega) _ _ p ?_ w 0 0 _ ?_ ?_ ?_ ?_ ?_
              · have hfm := fm p
                unfold capped
                by_cases hc : m < (p : Int) ∧ 0 < (p : Int)
                · rw [if_pos hc, if_pos hc] at hfm
                  rw [if_pos hc]
                  repeat (first | refine W_assoc ?_ | (show W _ (.seq (.region _ _) _) _ _; refine W_reg (by simp; with_reducible rfl) ?_) | (show R _ _ _ (_ :: _) _ _ _ _; refine R_op (by simp (maxSteps := 2000000) [h10, f29, h11, hfm, e4]; with_reducible rfl) ?_) | (show R _ _ _ [] _ _ _ _; refine R_nil (by simp; with_reducible rfl) ?_) | (show W _ (.seq (.cond _ _ _) _) _ _; first | refine W_ct (by first | (simp [h10, f29, h11, hfm, e4]; done) | fail) ?_ | refine W_cf (by first | (simp [h10, f29, h11, hfm, e4]; done) | fail) ?_) | refine W_skip ?_ | refine W_bl (c := .seq _ _) ?_ | refine W_bl (c := .region _ _) ?_ | refine W_bl (c := .cond _ _ _) ?_ | refine W_bl (c := .block _ _) ?_ | refine W_rt ?_ | refine W_ex ?_ | refine W_end ?_ | refine W_tail (a := .region _ _) ?_ | refine W_tail (a := .cond _ _ _) ?_ | refine W_tail (a := .ret) ?_ | refine W_tail (a := .exit _) ?_ | refine W_tail (a := .block _ _) ?_ | refine QB_normal ?_ | refine QB_exit ?_ | refine QB_ret ?_ | refine QB_out (by decide) ?_ | refine QL_next ?_ | refine QL_exit ?_ | refine QL_ret ?_ | refine QL_out (by decide) ?_ | (show Fin _ _ .ret _; exact Fin_ret (by first | (simp [c47]; done) | (simp [c47]; with_reducible rfl))) | (show Fin _ _ .normal _; exact Fin_end (by first | (simp [c47]; done) | (simp [c47]; with_reducible rfl))))
                · rw [if_neg hc, if_neg hc] at hfm
                  rw [if_neg hc]
                  repeat (first | refine W_assoc ?_ | (show W _ (.seq (.region _ _) _) _ _; refine W_reg (by simp; with_reducible rfl) ?_) | (show R _ _ _ (_ :: _) _ _ _ _; refine R_op (by simp (maxSteps := 2000000) [h10, f29, h11, hfm, e4]; with_reducible rfl) ?_) | (show R _ _ _ [] _ _ _ _; refine R_nil (by simp; with_reducible rfl) ?_) | (show W _ (.seq (.cond _ _ _) _) _ _; first | refine W_ct (by first | (simp [h10, f29, h11, hfm, e4]; done) | fail) ?_ | refine W_cf (by first | (simp [h10, f29, h11, hfm, e4]; done) | fail) ?_) | refine W_skip ?_ | refine W_bl (c := .seq _ _) ?_ | refine W_bl (c := .region _ _) ?_ | refine W_bl (c := .cond _ _ _) ?_ | refine W_bl (c := .block _ _) ?_ | refine W_rt ?_ | refine W_ex ?_ | refine W_end ?_ | refine W_tail (a := .region _ _) ?_ | refine W_tail (a := .cond _ _ _) ?_ | refine W_tail (a := .ret) ?_ | refine W_tail (a := .exit _) ?_ | refine W_tail (a := .block _ _) ?_ | refine QB_normal ?_ | refine QB_exit ?_ | refine QB_ret ?_ | refine QB_out (by decide) ?_ | refine QL_next ?_ | refine QL_exit ?_ | refine QL_ret ?_ | refine QL_out (by decide) ?_ | (show Fin _ _ .ret _; exact Fin_ret (by first | (simp [c47]; done) | (simp [c47]; with_reducible rfl))) | (show Fin _ _ .normal _; exact Fin_end (by first | (simp [c47]; done) | (simp [c47]; with_reducible rfl))))
              · omega
              · omega
              · simp
              · rw [Nat.add_zero]; exact hv
              · simp
            · rw [if_pos (.inr h11)]
              refine ⟨0, ?_, by simp⟩
              refine F_W T47 ?_
              simp only [c47, c47_b, Lift.start]
              repeat (first | refine W_assoc ?_ | (show W _ (.seq (.region _ _) _) _ _; refine W_reg (by simp; with_reducible rfl) ?_) | (show R _ _ _ (_ :: _) _ _ _ _; refine R_op (by simp (maxSteps := 2000000) [h0, hp, hp', hn0, hl, e1, h1, e2, e3, e4, h7, h8]; with_reducible rfl) ?_) | (show R _ _ _ [] _ _ _ _; refine R_nil (by simp; with_reducible rfl) ?_) | (show W _ (.seq (.cond _ _ _) _) _ _; first | refine W_ct (by first | (simp [h0, hp, hp', hn0, hl, e1, h1, e2, e3, e4, h7, h8]; done) | fail) ?_ | refine W_cf (by first | (simp [h0, hp, hp', hn0, hl, e1, h1, e2, e3, e4, h7, h8]; done) | fail) ?_) | refine W_skip ?_ | refine W_bl (c := .seq _ _) ?_ | refine W_bl (c := .region _ _) ?_ | refine W_bl (c := .cond _ _ _) ?_ | refine W_bl (c := .block _ _) ?_ | refine W_rt ?_ | refine W_ex ?_ | refine W_end ?_ | refine W_tail (a := .region _ _) ?_ | refine W_tail (a := .cond _ _ _) ?_ | refine W_tail (a := .ret) ?_ | refine W_tail (a := .exit _) ?_ | refine W_tail (a := .block _ _) ?_ | refine QB_normal ?_ | refine QB_exit ?_ | refine QB_ret ?_ | refine QB_out (by decide) ?_ | refine QL_next ?_ | refine QL_exit ?_ | refine QL_ret ?_ | refine QL_out (by decide) ?_ | (show Fin _ _ .ret _; exact Fin_ret (by first | (simp; done) | (simp; with_reducible rfl))) | (show Fin _ _ .normal _; exact Fin_end (by first | (simp; done) | (simp; with_reducible rfl))))
              refine look_loop x lo n m hx hlo hn w (by omega) (by omega) _ _ p ?_ w 0 0 _ ?_ ?_ ?_ ?_ ?_
              · repeat (first | refine W_assoc ?_ | (show W _ (.seq (.region _ _) _) _ _; refine W_reg (by simp; with_reducible rfl) ?_) | (show R _ _ _ (_ :: _) _ _ _ _; refine R_op (by simp (maxSteps := 2000000) [h10, f29, h11, f3]; with_reducible rfl) ?_) | (show R _ _ _ [] _ _ _ _; refine R_nil (by simp; with_reducible rfl) ?_) | (show W _ (.seq (.cond _ _ _) _) _ _; first | refine W_ct (by first | (simp [h10, f29, h11, f3]; done) | fail) ?_ | refine W_cf (by first | (simp [h10, f29, h11, f3]; done) | fail) ?_) | refine W_skip ?_ | refine W_bl (c := .seq _ _) ?_ | refine W_bl (c := .region _ _) ?_ | refine W_bl (c := .cond _ _ _) ?_ | refine W_bl (c := .block _ _) ?_ | refine W_rt ?_ | refine W_ex ?_ | refine W_end ?_ | refine W_tail (a := .region _ _) ?_ | refine W_tail (a := .cond _ _ _) ?_ | refine W_tail (a := .ret) ?_ | refine W_tail (a := .exit _) ?_ | refine W_tail (a := .block _ _) ?_ | refine QB_normal ?_ | refine QB_exit ?_ | refine QB_ret ?_ | refine QB_out (by decide) ?_ | refine QL_next ?_ | refine QL_exit ?_ | refine QL_ret ?_ | refine QL_out (by decide) ?_ | (show Fin _ _ .ret _; exact Fin_ret (by first | (simp [c47]; done) | (simp [c47]; with_reducible rfl))) | (show Fin _ _ .normal _; exact Fin_end (by first | (simp [c47]; done) | (simp [c47]; with_reducible rfl))))
              · omega
              · omega
              · simp
              · rw [Nat.add_zero]; exact hv
              · simp

theorem F_New (a : AV) (l : List Int) (ha : a = .ro 1 (enc (eInt .u8) l) false ∨ a = .ro 1 [] true ∧ l = []) (hl : l.length ≤ 100000) : F T 19 [a] [] = some (.ref 0 0 0, [rv 0 l.length 0, rr l]) := by
  have e1 : l.length ≤ 140737488355328 := by omega
  refine F_W T19 ?_
  simp only [c19, c19_b, Lift.start]
  rcases ha with rfl | ⟨rfl, rfl⟩
  · repeat (first | refine W_assoc ?_ | (show W _ (.seq (.region _ _) _) _ _; refine W_reg (by simp; with_reducible rfl) ?_) | (show R _ _ _ (_ :: _) _ _ _ _; refine R_op (by simp (maxSteps := 2000000) [e1]; with_reducible rfl) ?_) | (show R _ _ _ [] _ _ _ _; refine R_nil (by simp; with_reducible rfl) ?_) | (show W _ (.seq (.cond _ _ _) _) _ _; first | refine W_ct (by first | (simp [e1]; done) | fail) ?_ | refine W_cf (by first | (simp [e1]; done) | fail) ?_) | refine W_skip ?_ | refine W_bl (c := .seq _ _) ?_ | refine W_bl (c := .region _ _) ?_ | refine W_bl (c := .cond _ _ _) ?_ | refine W_bl (c := .block _ _) ?_ | refine W_rt ?_ | refine W_ex ?_ | refine W_end ?_ | refine W_tail (a := .region _ _) ?_ | refine W_tail (a := .cond _ _ _) ?_ | refine W_tail (a := .ret) ?_ | refine W_tail (a := .exit _) ?_ | refine W_tail (a := .block _ _) ?_ | refine QB_normal ?_ | refine QB_exit ?_ | refine QB_ret ?_ | refine QB_out (by decide) ?_ | refine QL_next ?_ | refine QL_exit ?_ | refine QL_ret ?_ | refine QL_out (by decide) ?_ | (show Fin _ _ .ret _; exact Fin_ret (by first | (simp [c19]; done) | (simp [c19]; with_reducible rfl))) | (show Fin _ _ .normal _; exact Fin_end (by first | (simp [c19]; done) | (simp [c19]; with_reducible rfl))))
  · repeat (first | refine W_assoc ?_ | (show W _ (.seq (.region _ _) _) _ _; refine W_reg (by simp; with_reducible rfl) ?_) | (show R _ _ _ (_ :: _) _ _ _ _; refine R_op (by simp (maxSteps := 2000000) [e1]; with_reducible rfl) ?_) | (show R _ _ _ [] _ _ _ _; refine R_nil (by simp; with_reducible rfl) ?_) | (show W _ (.seq (.cond _ _ _) _) _ _; first | refine W_ct (by first | (simp [e1]; done) | fail) ?_ | refine W_cf (by first | (simp [e1]; done) | fail) ?_) | refine W_skip ?_ | refine W_bl (c := .seq _ _) ?_ | refine W_bl (c := .region _ _) ?_ | refine W_bl (c := .cond _ _ _) ?_ | refine W_bl (c := .block _ _) ?_ | refine W_rt ?_ | refine W_ex ?_ | refine W_end ?_ | refine W_tail (a := .region _ _) ?_ | refine W_tail (a := .cond _ _ _) ?_ | refine W_tail (a := .ret) ?_ | refine W_tail (a := .exit _) ?_ | refine W_tail (a := .block _ _) ?_ | refine QB_normal ?_ | refine QB_exit ?_ | refine QB_ret ?_ | refine QB_out (by decide) ?_ | refine QL_next ?_ | refine QL_exit ?_ | refine QL_ret ?_ | refine QL_out (by decide) ?_ | (show Fin _ _ .ret _; exact Fin_ret (by first | (simp [c19]; done) | (simp [c19]; with_reducible rfl))) | (show Fin _ _ .normal _; exact Fin_end (by first | (simp [c19]; done) | (simp [c19]; with_reducible rfl))))

theorem F_RNum {x : List Int} {lo n : Nat} (h : InR x lo n) (e m : Int) : F T 21 [.ref 0 0 0, .int .i64 m] [rv lo n e, rr x] = some (.int .i64 (rdN (x.drop lo) e m).1, [rv (lo + (rdN (x.drop lo) e m).2.1) (n - (rdN (x.drop lo) e m).2.1) (rdN (x.drop lo) e m).2.2, rr x]) := by
  refine F_W T21 ?_
  simp only [c21, c21_b, Lift.start]
  by_cases he : e = 0
  · subst he
    obtain ⟨w, hF, hw⟩ := F_look x lo n m h.hx h.hlo h.hn
    have hok := nxt_ok (x.drop lo) m (fun a ha => h.hx a (List.mem_of_mem_drop ha))
    have hlen : (x.drop lo).length = n := by rw [List.length_drop]; have := h.hlo; omega
    have hr : rdN (x.drop lo) 0 m = if (nxt (x.drop lo) m).2.2 ≠ 0 then (0, 0, (nxt (x.drop lo) m).2.2) else ((nxt (x.drop lo) m).1, (nxt (x.drop lo) m).2.1, 0) := by simp [rdN]
    rw [hr]
    generalize nxt (x.drop lo) m = q at hF hw hok
    obtain ⟨a, k, c⟩ := q
    simp only [] at hF hw hok ⊢
    by_cases hc : c = 0
    · subst hc
      obtain rfl := hw rfl
      have hk : k ≤ n := by have := (hok rfl).2.1; omega
      rw [if_neg (by simp)]
      repeat (first | refine W_assoc ?_ | (show W _ (.seq (.region _ _) _) _ _; refine W_reg (by simp; with_reducible rfl) ?_) | (show R _ _ _ (_ :: _) _ _ _ _; refine R_op (by simp (maxSteps := 2000000) [hF, hk]; with_reducible rfl) ?_) | (show R _ _ _ [] _ _ _ _; refine R_nil (by simp; with_reducible rfl) ?_) | (show W _ (.seq (.cond _ _ _) _) _ _; first | refine W_ct (by first | (simp [hF, hk]; done) | fail) ?_ | refine W_cf (by first | (simp [hF, hk]; done) | fail) ?_) | refine W_skip ?_ | refine W_bl (c := .seq _ _) ?_ | refine W_bl (c := .region _ _) ?_ | refine W_bl (c := .cond _ _ _) ?_ | refine W_bl (c := .block _ _) ?_ | refine W_rt ?_ | refine W_ex ?_ | refine W_end ?_ | refine W_tail (a := .region _ _) ?_ | refine W_tail (a := .cond _ _ _) ?_ | refine W_tail (a := .ret) ?_ | refine W_tail (a := .exit _) ?_ | refine W_tail (a := .block _ _) ?_ | refine QB_normal ?_ | refine QB_exit ?_ | refine QB_ret ?_ | refine QB_out (by decide) ?_ | refine QL_next ?_ | refine QL_exit ?_ | refine QL_ret ?_ | refine QL_out (by decide) ?_ | (show Fin _ _ .ret _; exact Fin_ret (by first | (simp [c21]; done) | (simp [c21]; with_reducible rfl))) | (show Fin _ _ .normal _; exact Fin_end (by first | (simp [c21]; done) | (simp [c21]; with_reducible rfl))))
    · rw [if_pos hc]
      repeat (first | refine W_assoc ?_ | (show W _ (.seq (.region _ _) _) _ _; refine W_reg (by simp; with_reducible rfl) ?_) | (show R _ _ _ (_ :: _) _ _ _ _; refine R_op (by simp (maxSteps := 2000000) [hF, hc]; with_reducible rfl) ?_) | (show R _ _ _ [] _ _ _ _; refine R_nil (by simp; with_reducible rfl) ?_) | (show W _ (.seq (.cond _ _ _) _) _ _; first | refine W_ct (by first | (simp [hF, hc]; done) | fail) ?_ | refine W_cf (by first | (simp [hF, hc]; done) | fail) ?_) | refine W_skip ?_ | refine W_bl (c := .seq _ _) ?_ | refine W_bl (c := .region _ _) ?_ | refine W_bl (c := .cond _ _ _) ?_ | refine W_bl (c := .block _ _) ?_ | refine W_rt ?_ | refine W_ex ?_ | refine W_end ?_ | refine W_tail (a := .region _ _) ?_ | refine W_tail (a := .cond _ _ _) ?_ | refine W_tail (a := .ret) ?_ | refine W_tail (a := .exit _) ?_ | refine W_tail (a := .block _ _) ?_ | refine QB_normal ?_ | refine QB_exit ?_ | refine QB_ret ?_ | refine QB_out (by decide) ?_ | refine QL_next ?_ | refine QL_exit ?_ | refine QL_ret ?_ | refine QL_out (by decide) ?_ | (show Fin _ _ .ret _; exact Fin_ret (by first | (simp [c21]; done) | (simp [c21]; with_reducible rfl))) | (show Fin _ _ .normal _; exact Fin_end (by first | (simp [c21]; done) | (simp [c21]; with_reducible rfl))))
  · have hr : rdN (x.drop lo) e m = (0, 0, e) := by simp [rdN, he]
    rw [hr]
    repeat (first | refine W_assoc ?_ | (show W _ (.seq (.region _ _) _) _ _; refine W_reg (by simp; with_reducible rfl) ?_) | (show R _ _ _ (_ :: _) _ _ _ _; refine R_op (by simp (maxSteps := 2000000) [he]; with_reducible rfl) ?_) | (show R _ _ _ [] _ _ _ _; refine R_nil (by simp; with_reducible rfl) ?_) | (show W _ (.seq (.cond _ _ _) _) _ _; first | refine W_ct (by first | (simp [he]; done) | fail) ?_ | refine W_cf (by first | (simp [he]; done) | fail) ?_) | refine W_skip ?_ | refine W_bl (c := .seq _ _) ?_ | refine W_bl (c := .region _ _) ?_ | refine W_bl (c := .cond _ _ _) ?_ | refine W_bl (c := .block _ _) ?_ | refine W_rt ?_ | refine W_ex ?_ | refine W_end ?_ | refine W_tail (a := .region _ _) ?_ | refine W_tail (a := .cond _ _ _) ?_ | refine W_tail (a := .ret) ?_ | refine W_tail (a := .exit _) ?_ | refine W_tail (a := .block _ _) ?_ | refine QB_normal ?_ | refine QB_exit ?_ | refine QB_ret ?_ | refine QB_out (by decide) ?_ | refine QL_next ?_ | refine QL_exit ?_ | refine QL_ret ?_ | refine QL_out (by decide) ?_ | (show Fin _ _ .ret _; exact Fin_ret (by first | (simp [c21]; done) | (simp [c21]; with_reducible rfl))) | (show Fin _ _ .normal _; exact Fin_end (by first | (simp [c21]; done) | (simp [c21]; with_reducible rfl))))

theorem F_RText {x : List Int} {lo n : Nat} (h : InR x lo n) (e m : Int) : F T 26 [.ref 0 0 0, .int .i64 m] [rv lo n e, rr x] = some (.str (bs (rdT (x.drop lo) e m).1), [rv (lo + (rdT (x.drop lo) e m).2.1) (n - (rdT (x.drop lo) e m).2.1) (rdT (x.drop lo) e m).2.2, rr x]) := by
  refine F_W T26 ?_
  simp only [c26, c26_b, Lift.start]
  by_cases he : e = 0
  · subst he
    obtain ⟨w, hF, hw⟩ := F_look x lo n m h.hx h.hlo h.hn
    have hok := nxt_ok (x.drop lo) m (fun a ha => h.hx a (List.mem_of_mem_drop ha))
    have hlen : (x.drop lo).length = n := by rw [List.length_drop]; have := h.hlo; omega
    have hn := h.hn
    have hlo := h.hlo
    have f2 := F_Fail x lo n 0 2
    rw [if_pos rfl] at f2
    have hr : rdT (x.drop lo) 0 m = if (nxt (x.drop lo) m).2.2 ≠ 0 then ([], 0, (nxt (x.drop lo) m).2.2) else if (n : Int) - (nxt (x.drop lo) m).2.1 < (nxt (x.drop lo) m).1 then ([], 0, 2) else (((x.drop lo).drop (nxt (x.drop lo) m).2.1).take (nxt (x.drop lo) m).1.toNat, (nxt (x.drop lo) m).2.1 + (nxt (x.drop lo) m).1.toNat, 0) := by simp only [rdT, hlen]; simp
    rw [hr]
    generalize nxt (x.drop lo) m = q at hF hw hok
    obtain ⟨a, k, c⟩ := q
    simp only [] at hF hw hok ⊢
    by_cases hc : c = 0
    · subst hc
      obtain rfl := hw rfl
      obtain ⟨h1, h2, h3, h4⟩ := hok rfl
      obtain ⟨p, rfl⟩ : ∃ p : Nat, a = p := ⟨a.toNat, by omega⟩
      have hk : k ≤ n := by omega
      have e1 : IntKind.i64.wrap ((n : Int) - k) = (n : Int) - k := wrap_id _ (by omega) (by omega)
      obtain ⟨q, hq⟩ : ∃ q, q = k + p := ⟨_, rfl⟩
      have e2 : IntKind.i64.wrap ((k : Int) + p) = (q : Int) := by rw [wrap_id _ (by omega) (by omega)]; omega
      rw [if_neg (by simp)]
      by_cases h5 : (n : Int) - k < p
      · rw [if_pos h5]
        repeat (first | refine W_assoc ?_ | (show W _ (.seq (.region _ _) _) _ _; refine W_reg (by simp; with_reducible rfl) ?_) | (show R _ _ _ (_ :: _) _ _ _ _; refine R_op (by simp (maxSteps := 2000000) [hF, f2, e1, e2, h5]; with_reducible rfl) ?_) | (show R _ _ _ [] _ _ _ _; refine R_nil (by simp; with_reducible rfl) ?_) | (show W _ (.seq (.cond _ _ _) _) _ _; first | refine W_ct (by first | (simp [hF, f2, e1, e2, h5]; done) | fail) ?_ | refine W_cf (by first | (simp [hF, f2, e1, e2, h5]; done) | fail) ?_) | refine W_skip ?_ | refine W_bl (c := .seq _ _) ?_ | refine W_bl (c := .region _ _) ?_ | refine W_bl (c := .cond _ _ _) ?_ | refine W_bl (c := .block _ _) ?_ | refine W_rt ?_ | refine W_ex ?_ | refine W_end ?_ | refine W_tail (a := .region _ _) ?_ | refine W_tail (a := .cond _ _ _) ?_ | refine W_tail (a := .ret) ?_ | refine W_tail (a := .exit _) ?_ | refine W_tail (a := .block _ _) ?_ | refine QB_normal ?_ | refine QB_exit ?_ | refine QB_ret ?_ | refine QB_out (by decide) ?_ | refine QL_next ?_ | refine QL_exit ?_ | refine QL_ret ?_ | refine QL_out (by decide) ?_ | (show Fin _ _ .ret _; exact Fin_ret (by first | (simp [c26, bs0]; done) | (simp [c26, bs0]; with_reducible rfl))) | (show Fin _ _ .normal _; exact Fin_end (by first | (simp [c26, bs0]; done) | (simp [c26, bs0]; with_reducible rfl))))
      · have h6 : q ≤ n := by omega
        have h6' : k ≤ q := by omega
        have h7 : lo + k + (q - k) ≤ x.length := by omega
        have h8 : q - k = p := by omega
        rw [if_neg h5, Int.toNat_natCast]
        repeat (first | refine W_assoc ?_ | (show W _ (.seq (.region _ _) _) _ _; refine W_reg (by simp; with_reducible rfl) ?_) | (show R _ _ _ (_ :: _) _ _ _ _; refine R_op (by simp (maxSteps := 2000000) [hF, f2, e1, e2, h5, h6, h6', h7]; with_reducible rfl) ?_) | (show R _ _ _ [] _ _ _ _; refine R_nil (by simp; with_reducible rfl) ?_) | (show W _ (.seq (.cond _ _ _) _) _ _; first | refine W_ct (by first | (simp [hF, f2, e1, e2, h5, h6, h6', h7]; done) | fail) ?_ | refine W_cf (by first | (simp [hF, f2, e1, e2, h5, h6, h6', h7]; done) | fail) ?_) | refine W_skip ?_ | refine W_bl (c := .seq _ _) ?_ | refine W_bl (c := .region _ _) ?_ | refine W_bl (c := .cond _ _ _) ?_ | refine W_bl (c := .block _ _) ?_ | refine W_rt ?_ | refine W_ex ?_ | refine W_end ?_ | refine W_tail (a := .region _ _) ?_ | refine W_tail (a := .cond _ _ _) ?_ | refine W_tail (a := .ret) ?_ | refine W_tail (a := .exit _) ?_ | refine W_tail (a := .block _ _) ?_ | refine QB_normal ?_ | refine QB_exit ?_ | refine QB_ret ?_ | refine QB_out (by decide) ?_ | refine QL_next ?_ | refine QL_exit ?_ | refine QL_ret ?_ | refine QL_out (by decide) ?_ | (show Fin _ _ .ret _; exact Fin_ret (by first | (simp [c26, bs0, h8, ← hq]; done) | (simp [c26, bs0, h8, ← hq]; with_reducible rfl))) | (show Fin _ _ .normal _; exact Fin_end (by first | (simp [c26, bs0, h8, ← hq]; done) | (simp [c26, bs0, h8, ← hq]; with_reducible rfl))))
    · rw [if_pos hc]
      repeat (first | refine W_assoc ?_ | (show W _ (.seq (.region _ _) _) _ _; refine W_reg (by simp; with_reducible rfl) ?_) | (show R _ _ _ (_ :: _) _ _ _ _; refine R_op (by simp (maxSteps := 2000000) [hF, hc]; with_reducible rfl) ?_) | (show R _ _ _ [] _ _ _ _; refine R_nil (by simp; with_reducible rfl) ?_) | (show W _ (.seq (.cond _ _ _) _) _ _; first | refine W_ct (by first | (simp [hF, hc]; done) | fail) ?_ | refine W_cf (by first | (simp [hF, hc]; done) | fail) ?_) | refine W_skip ?_ | refine W_bl (c := .seq _ _) ?_ | refine W_bl (c := .region _ _) ?_ | refine W_bl (c := .cond _ _ _) ?_ | refine W_bl (c := .block _ _) ?_ | refine W_rt ?_ | refine W_ex ?_ | refine W_end ?_ | refine W_tail (a := .region _ _) ?_ | refine W_tail (a := .cond _ _ _) ?_ | refine W_tail (a := .ret) ?_ | refine W_tail (a := .exit _) ?_ | refine W_tail (a := .block _ _) ?_ | refine QB_normal ?_ | refine QB_exit ?_ | refine QB_ret ?_ | refine QB_out (by decide) ?_ | refine QL_next ?_ | refine QL_exit ?_ | refine QL_ret ?_ | refine QL_out (by decide) ?_ | (show Fin _ _ .ret _; exact Fin_ret (by first | (simp [c26, bs0]; done) | (simp [c26, bs0]; with_reducible rfl))) | (show Fin _ _ .normal _; exact Fin_end (by first | (simp [c26, bs0]; done) | (simp [c26, bs0]; with_reducible rfl))))
  · have hr : rdT (x.drop lo) e m = ([], 0, e) := by simp [rdT, he]
    rw [hr]
    repeat (first | refine W_assoc ?_ | (show W _ (.seq (.region _ _) _) _ _; refine W_reg (by simp; with_reducible rfl) ?_) | (show R _ _ _ (_ :: _) _ _ _ _; refine R_op (by simp (maxSteps := 2000000) [he]; with_reducible rfl) ?_) | (show R _ _ _ [] _ _ _ _; refine R_nil (by simp; with_reducible rfl) ?_) | (show W _ (.seq (.cond _ _ _) _) _ _; first | refine W_ct (by first | (simp [he]; done) | fail) ?_ | refine W_cf (by first | (simp [he]; done) | fail) ?_) | refine W_skip ?_ | refine W_bl (c := .seq _ _) ?_ | refine W_bl (c := .region _ _) ?_ | refine W_bl (c := .cond _ _ _) ?_ | refine W_bl (c := .block _ _) ?_ | refine W_rt ?_ | refine W_ex ?_ | refine W_end ?_ | refine W_tail (a := .region _ _) ?_ | refine W_tail (a := .cond _ _ _) ?_ | refine W_tail (a := .ret) ?_ | refine W_tail (a := .exit _) ?_ | refine W_tail (a := .block _ _) ?_ | refine QB_normal ?_ | refine QB_exit ?_ | refine QB_ret ?_ | refine QB_out (by decide) ?_ | refine QL_next ?_ | refine QL_exit ?_ | refine QL_ret ?_ | refine QL_out (by decide) ?_ | (show Fin _ _ .ret _; exact Fin_ret (by first | (simp [c26, bs0]; done) | (simp [c26, bs0]; with_reducible rfl))) | (show Fin _ _ .normal _; exact Fin_end (by first | (simp [c26, bs0]; done) | (simp [c26, bs0]; with_reducible rfl))))

theorem F_RLeft (x : List Int) (lo n : Nat) (e : Int) : F T 44 [.ref 0 0 0] [rv lo n e, rr x] = some (.int .i64 n, [rv lo n e, rr x]) := by
  refine F_W T44 ?_
  simp only [c44, c44_b, Lift.start]
  repeat (first | refine W_assoc ?_ | (show W _ (.seq (.region _ _) _) _ _; refine W_reg (by simp; with_reducible rfl) ?_) | (show R _ _ _ (_ :: _) _ _ _ _; refine R_op (by simp (maxSteps := 2000000); with_reducible rfl) ?_) | (show R _ _ _ [] _ _ _ _; refine R_nil (by simp; with_reducible rfl) ?_) | (show W _ (.seq (.cond _ _ _) _) _ _; first | refine W_ct (by first | (simp; done) | fail) ?_ | refine W_cf (by first | (simp; done) | fail) ?_) | refine W_skip ?_ | refine W_bl (c := .seq _ _) ?_ | refine W_bl (c := .region _ _) ?_ | refine W_bl (c := .cond _ _ _) ?_ | refine W_bl (c := .block _ _) ?_ | refine W_rt ?_ | refine W_ex ?_ | refine W_end ?_ | refine W_tail (a := .region _ _) ?_ | refine W_tail (a := .cond _ _ _) ?_ | refine W_tail (a := .ret) ?_ | refine W_tail (a := .exit _) ?_ | refine W_tail (a := .block _ _) ?_ | refine QB_normal ?_ | refine QB_exit ?_ | refine QB_ret ?_ | refine QB_out (by decide) ?_ | refine QL_next ?_ | refine QL_exit ?_ | refine QL_ret ?_ | refine QL_out (by decide) ?_ | (show Fin _ _ .ret _; exact Fin_ret (by first | (simp [c44]; done) | (simp [c44]; with_reducible rfl))) | (show Fin _ _ .normal _; exact Fin_end (by first | (simp [c44]; done) | (simp [c44]; with_reducible rfl))))

theorem F_RErr (x : List Int) (lo n : Nat) (e : Int) : F T 45 [.ref 0 0 0] [rv lo n e, rr x] = some (.int .i64 e, [rv lo n e, rr x]) := by
  refine F_W T45 ?_
  simp only [c45, c45_b, Lift.start]
  repeat (first | refine W_assoc ?_ | (show W _ (.seq (.region _ _) _) _ _; refine W_reg (by simp; with_reducible rfl) ?_) | (show R _ _ _ (_ :: _) _ _ _ _; refine R_op (by simp (maxSteps := 2000000); with_reducible rfl) ?_) | (show R _ _ _ [] _ _ _ _; refine R_nil (by simp; with_reducible rfl) ?_) | (show W _ (.seq (.cond _ _ _) _) _ _; first | refine W_ct (by first | (simp; done) | fail) ?_ | refine W_cf (by first | (simp; done) | fail) ?_) | refine W_skip ?_ | refine W_bl (c := .seq _ _) ?_ | refine W_bl (c := .region _ _) ?_ | refine W_bl (c := .cond _ _ _) ?_ | refine W_bl (c := .block _ _) ?_ | refine W_rt ?_ | refine W_ex ?_ | refine W_end ?_ | refine W_tail (a := .region _ _) ?_ | refine W_tail (a := .cond _ _ _) ?_ | refine W_tail (a := .ret) ?_ | refine W_tail (a := .exit _) ?_ | refine W_tail (a := .block _ _) ?_ | refine QB_normal ?_ | refine QB_exit ?_ | refine QB_ret ?_ | refine QB_out (by decide) ?_ | refine QL_next ?_ | refine QL_exit ?_ | refine QL_ret ?_ | refine QL_out (by decide) ?_ | (show Fin _ _ .ret _; exact Fin_ret (by first | (simp [c45]; done) | (simp [c45]; with_reducible rfl))) | (show Fin _ _ .normal _; exact Fin_end (by first | (simp [c45]; done) | (simp [c45]; with_reducible rfl))))


theorem F_REnd (x : List Int) (lo n : Nat) (e : Int) : F T 27 [.ref 0 0 0] [rv lo n e, rr x] = some (.int .i64 (endE e n), [rv lo n e, rr x]) := by
  have hF := F_RErr x lo n e
  unfold endE
  refine F_W T27 ?_
  simp only [c27, c27_b, Lift.start]
  by_cases he : e = 0
  · subst he
    rw [if_neg (by simp)]
    by_cases hn : 0 < n
    · rw [if_pos hn]
      repeat (first | refine W_assoc ?_ | (show W _ (.seq (.region _ _) _) _ _; refine W_reg (by simp; with_reducible rfl) ?_) | (show R _ _ _ (_ :: _) _ _ _ _; refine R_op (by simp (maxSteps := 2000000) [hF, hn]; with_reducible rfl) ?_) | (show R _ _ _ [] _ _ _ _; refine R_nil (by simp; with_reducible rfl) ?_) | (show W _ (.seq (.cond _ _ _) _) _ _; first | refine W_ct (by first | (simp [hF, hn]; done) | fail) ?_ | refine W_cf (by first | (simp [hF, hn]; done) | fail) ?_) | refine W_skip ?_ | refine W_bl (c := .seq _ _) ?_ | refine W_bl (c := .region _ _) ?_ | refine W_bl (c := .cond _ _ _) ?_ | refine W_bl (c := .block _ _) ?_ | refine W_rt ?_ | refine W_ex ?_ | refine W_end ?_ | refine W_tail (a := .region _ _) ?_ | refine W_tail (a := .cond _ _ _) ?_ | refine W_tail (a := .ret) ?_ | refine W_tail (a := .exit _) ?_ | refine W_tail (a := .block _ _) ?_ | refine QB_normal ?_ | refine QB_exit ?_ | refine QB_ret ?_ | refine QB_out (by decide) ?_ | refine QL_next ?_ | refine QL_exit ?_ | refine QL_ret ?_ | refine QL_out (by decide) ?_ | (show Fin _ _ .ret _; exact Fin_ret (by first | (simp [c27]; done) | (simp [c27]; with_reducible rfl))) | (show Fin _ _ .normal _; exact Fin_end (by first | (simp [c27]; done) | (simp [c27]; with_reducible rfl))))
    · rw [if_neg hn]
      repeat (first | refine W_assoc ?_ | (show W _ (.seq (.region _ _) _) _ _; refine W_reg (by simp; with_reducible rfl) ?_) | (show R _ _ _ (_ :: _) _ _ _ _; refine R_op (by simp (maxSteps := 2000000) [hF, hn]; with_reducible rfl) ?_) | (show R _ _ _ [] _ _ _ _; refine R_nil (by simp; with_reducible rfl) ?_) | (show W _ (.seq (.cond _ _ _) _) _ _; first | refine W_ct (by first | (simp [hF, hn]; done) | fail) ?_ | refine W_cf (by first | (simp [hF, hn]; done) | fail) ?_) | refine W_skip ?_ | refine W_bl (c := .seq _ _) ?_ | refine W_bl (c := .region _ _) ?_ | refine W_bl (c := .cond _ _ _) ?_ | refine W_bl (c := .block _ _) ?_ | refine W_rt ?_ | refine W_ex ?_ | refine W_end ?_ | refine W_tail (a := .region _ _) ?_ | refine W_tail (a := .cond _ _ _) ?_ | refine W_tail (a := .ret) ?_ | refine W_tail (a := .exit _) ?_ | refine W_tail (a := .block _ _) ?_ | refine QB_normal ?_ | refine QB_exit ?_ | refine QB_ret ?_ | refine QB_out (by decide) ?_ | refine QL_next ?_ | refine QL_exit ?_ | refine QL_ret ?_ | refine QL_out (by decide) ?_ | (show Fin _ _ .ret _; exact Fin_ret (by first | (simp [c27]; done) | (simp [c27]; with_reducible rfl))) | (show Fin _ _ .normal _; exact Fin_end (by first | (simp [c27]; done) | (simp [c27]; with_reducible rfl))))
  · rw [if_pos he]
    repeat (first | refine W_assoc ?_ | (show W _ (.seq (.region _ _) _) _ _; refine W_reg (by simp; with_reducible rfl) ?_) | (show R _ _ _ (_ :: _) _ _ _ _; refine R_op (by simp (maxSteps := 2000000) [hF, he]; with_reducible rfl) ?_) | (show R _ _ _ [] _ _ _ _; refine R_nil (by simp; with_reducible rfl) ?_) | (show W _ (.seq (.cond _ _ _) _) _ _; first | refine W_ct (by first | (simp [hF, he]; done) | fail) ?_ | refine W_cf (by first | (simp [hF, he]; done) | fail) ?_) | refine W_skip ?_ | refine W_bl (c := .seq _ _) ?_ | refine W_bl (c := .region _ _) ?_ | refine W_bl (c := .cond _ _ _) ?_ | refine W_bl (c := .block _ _) ?_ | refine W_rt ?_ | refine W_ex ?_ | refine W_end ?_ | refine W_tail (a := .region _ _) ?_ | refine W_tail (a := .cond _ _ _) ?_ | refine W_tail (a := .ret) ?_ | refine W_tail (a := .exit _) ?_ | refine W_tail (a := .block _ _) ?_ | refine QB_normal ?_ | refine QB_exit ?_ | refine QB_ret ?_ | refine QB_out (by decide) ?_ | refine QL_next ?_ | refine QL_exit ?_ | refine QL_ret ?_ | refine QL_out (by decide) ?_ | (show Fin _ _ .ret _; exact Fin_ret (by first | (simp [c27]; done) | (simp [c27]; with_reducible rfl))) | (show Fin _ _ .normal _; exact Fin_end (by first | (simp [c27]; done) | (simp [c27]; with_reducible rfl))))

end Go.Proofs.Ytleeafkkgepblaa.Oct
