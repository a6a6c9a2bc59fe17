/- What the document's readers come to. -/
import Derived.Test.YtnobgooojbppbacOctRead
set_option linter.all false
set_option linter.unusedSimpArgs false
set_option maxRecDepth 100000
set_option maxHeartbeats 4000000
namespace Go.Proofs.Ytnobgooojbppbac.Oct
open Go Go.RowKit Go.Proofs.Ytnobgooojbppbac.Lift Go.Proofs.Ytnobgooojbppbac.TOC Go.Proofs.Ytnobgooojbppbac.Base

theorem next_loop (r : List Int) (m : Int) (hr : ∀ a ∈ r, 0 ≤ a ∧ a ≤ 255) (w : Nat) (hw : w ≤ 7) (hw1 : 1 + w ≤ r.length) (b : SCode) (Q : AEx → ASt → Prop) (v : Int)
    (hQ : W T b ⟨[.str (bs r), .int .i64 m, .top, .top, .top, .top, .top, .int .i64 w, .int .i64 v, .int .i64 ((w : Int) + 1), .top, .top, .top, .top, .top, .top, .top, .top, .top, .top, .top, .top, .top, .top, .top, .top, .top, .int .i64 ((w : Int) + 1), .int .i64 w, .bool false, .top, .top, .top, .top, .top, .top, .top, .top, .top, .top, .top, .top, .top, .top, .top, .top, .top, .top, .top, .top, .top, .top, .top, .top, .top, .top, .top, .top], [], 192, 0⟩ Q) :
    ∀ (k i : Nat) (a : Int) (st : ASt), i + k = w + 1 → 1 ≤ i → 0 ≤ a → a < 256 ^ (i - 1) → v = valI a ((r.drop i).take k) → canon [0, 1, 7, 8, 9] st = ⟨[.str (bs r), .int .i64 m, .top, .top, .top, .top, .top, .int .i64 w, .int .i64 a, .int .i64 i, .top, .top, .top, .top, .top, .top, .top, .top, .top, .top, .top, .top, .top, .top, .top, .top, .top, .top, .top, .top, .top, .top, .top, .top, .top, .top, .top, .top, .top, .top, .top, .top, .top, .top, .top, .top, .top, .top, .top, .top, .top, .top, .top, .top, .top, .top, .top, .top], [], 0, 0⟩ →
    W T (.seq (.block 0 (.loop [0, 1, 7, 8, 9] c57_l0)) b) st Q := by
  intro k
  induction k with
  | zero =>
    intro i a st h1 hi1 h2 h3 hv hc
    obtain rfl : i = w + 1 := by omega
    have h : ¬ (w : Int) + 1 ≤ w := by omega
    have h' : ¬ w + 1 ≤ w := by omega
    have hv : v = a := by rw [hv]; simp [valI]
    subst hv
    refine W_round hc ?_
    unfold c57_l0
    repeat (first | refine W_assoc ?_ | (show W _ (.seq (.region _ _) _) _ _; refine W_reg (by simp; with_reducible rfl) ?_) | (show R _ _ _ (_ :: _) _ _ _ _; refine R_op (by simp (maxSteps := 2000000) [h, h']; with_reducible rfl) ?_) | (show R _ _ _ [] _ _ _ _; refine R_nil (by simp; with_reducible rfl) ?_) | (show W _ (.seq (.cond _ _ _) _) _ _; first | refine W_ct (by first | (simp [h, h']; done) | fail) ?_ | refine W_cf (by first | (simp [h, h']; done) | fail) ?_) | refine W_skip ?_ | refine W_bl (c := .seq _ _) ?_ | refine W_bl (c := .region _ _) ?_ | refine W_bl (c := .cond _ _ _) ?_ | refine W_bl (c := .block _ _) ?_ | refine W_rt ?_ | refine W_ex ?_ | refine W_end ?_ | refine W_tail (a := .region _ _) ?_ | refine W_tail (a := .cond _ _ _) ?_ | refine W_tail (a := .ret) ?_ | refine W_tail (a := .exit _) ?_ | refine W_tail (a := .block _ _) ?_ | refine QB_normal ?_ | refine QB_exit ?_ | refine QB_ret ?_ | refine QB_out (by decide) ?_ | refine QL_next ?_ | refine QL_exit ?_ | refine QL_ret ?_ | refine QL_out (by decide) ?_ | (show Fin _ _ .ret _; exact Fin_ret (by first | (simp; done) | (simp; with_reducible rfl))) | (show Fin _ _ .normal _; exact Fin_end (by first | (simp; done) | (simp; with_reducible rfl))))
    exact hQ
  | succ k ih =>
    intro i a st h1 hi1 h2 h3 hv hc
    have hi : i ≤ w := by omega
    have hi' : (i : Int) ≤ w := by omega
    have hl : i < r.length := by omega
    have e0 : (256 : Int) ^ (i - 1) ≤ 256 ^ 6 := by exact_mod_cast Nat.pow_le_pow_right (by omega) (by omega : i - 1 ≤ 6)
    have hb := hr _ (List.getElem_mem hl)
    have e1 : IntKind.i64.wrap ((i : Int) + 1) = (i : Int) + 1 := wrap_id _ (by omega) (by omega)
    have e4 : IntKind.i64.wrap r[i] = r[i] := wrap_id _ (by omega) (by omega)
    have e6 : IntKind.i64.wrap (a * 256) = a * 256 := wrap_id _ (by omega) (by omega)
    have e7 : IntKind.i64.wrap (a * 256 + r[i]) = a * 256 + r[i] := wrap_id _ (by omega) (by omega)
    have e8 := bs_at r i hl hb (by simpa using hl)
    have hp : (256 : Int) ^ (i + 1 - 1) = 256 ^ (i - 1) * 256 := by rw [show i + 1 - 1 = (i - 1) + 1 from by omega]; exact Int.pow_succ _ _
    have e9 : (r.drop i).take (k + 1) = r[i] :: (r.drop (i + 1)).take k := by
      rw [List.drop_eq_getElem_cons hl, List.take_succ_cons]
    rw [e9] at hv
    have hv' : v = valI (a * 256 + r[i]) ((r.drop (i + 1)).take k) := hv
    generalize r[i] = y at *
    refine W_round hc ?_
    unfold c57_l0
    repeat (first | refine W_assoc ?_ | (show W _ (.seq (.region _ _) _) _ _; refine W_reg (by simp; with_reducible rfl) ?_) | (show R _ _ _ (_ :: _) _ _ _ _; refine R_op (by simp (maxSteps := 2000000) [hi, hi', hl, e1, e4, e6, e7, e8, -UInt8.toNat_ofNat']; with_reducible rfl) ?_) | (show R _ _ _ [] _ _ _ _; refine R_nil (by simp; with_reducible rfl) ?_) | (show W _ (.seq (.cond _ _ _) _) _ _; first | refine W_ct (by first | (simp [hi, hi', hl, e1, e4, e6, e7, e8, -UInt8.toNat_ofNat']; done) | fail) ?_ | refine W_cf (by first | (simp [hi, hi', hl, e1, e4, e6, e7, e8, -UInt8.toNat_ofNat']; done) | fail) ?_) | refine W_skip ?_ | refine W_bl (c := .seq _ _) ?_ | refine W_bl (c := .region _ _) ?_ | refine W_bl (c := .cond _ _ _) ?_ | refine W_bl (c := .block _ _) ?_ | refine W_rt ?_ | refine W_ex ?_ | refine W_end ?_ | refine W_tail (a := .region _ _) ?_ | refine W_tail (a := .cond _ _ _) ?_ | refine W_tail (a := .ret) ?_ | refine W_tail (a := .exit _) ?_ | refine W_tail (a := .block _ _) ?_ | refine QB_normal ?_ | refine QB_exit ?_ | refine QB_ret ?_ | refine QB_out (by decide) ?_ | refine QL_next ?_ | refine QL_exit ?_ | refine QL_ret ?_ | refine QL_out (by decide) ?_ | (show Fin _ _ .ret _; exact Fin_ret (by first | (simp; done) | (simp; with_reducible rfl))) | (show Fin _ _ .normal _; exact Fin_end (by first | (simp; done) | (simp; with_reducible rfl))))
    refine ih (i + 1) (a * 256 + y) _ ?_ ?_ ?_ ?_ hv' ?_
    · omega
    · omega
    · omega
    · omega
    · simp

theorem F_Next (r : List Int) (m : Int) (hr : ∀ a ∈ r, 0 ≤ a ∧ a ≤ 255) (hn : r.length < 100000) : F T 57 [.str (bs r), .int .i64 m] [] = some (.tup [.int .i64 (nxt r m).1, .int .i64 (nxt r m).2.1, .int .i64 (nxt r m).2.2], []) := by
  by_cases hne : r = []
  · subst hne
    simp only [nxt]
    refine F_W T57 ?_
    simp only [c57, c57_b, Lift.start]
    repeat (first | refine W_assoc ?_ | (show W _ (.seq (.region _ _) _) _ _; refine W_reg (by simp; with_reducible rfl) ?_) | (show R _ _ _ (_ :: _) _ _ _ _; refine R_op (by simp (maxSteps := 2000000); with_reducible rfl) ?_) | (show R _ _ _ [] _ _ _ _; refine R_nil (by simp; with_reducible rfl) ?_) | (show W _ (.seq (.cond _ _ _) _) _ _; first | refine W_ct (by first | (simp; done) | fail) ?_ | refine W_cf (by first | (simp; done) | fail) ?_) | refine W_skip ?_ | refine W_bl (c := .seq _ _) ?_ | refine W_bl (c := .region _ _) ?_ | refine W_bl (c := .cond _ _ _) ?_ | refine W_bl (c := .block _ _) ?_ | refine W_rt ?_ | refine W_ex ?_ | refine W_end ?_ | refine W_tail (a := .region _ _) ?_ | refine W_tail (a := .cond _ _ _) ?_ | refine W_tail (a := .ret) ?_ | refine W_tail (a := .exit _) ?_ | refine W_tail (a := .block _ _) ?_ | refine QB_normal ?_ | refine QB_exit ?_ | refine QB_ret ?_ | refine QB_out (by decide) ?_ | refine QL_next ?_ | refine QL_exit ?_ | refine QL_ret ?_ | refine QL_out (by decide) ?_ | (show Fin _ _ .ret _; exact Fin_ret (by first | (simp [c57]; done) | (simp [c57]; with_reducible rfl))) | (show Fin _ _ .normal _; exact Fin_end (by first | (simp [c57]; done) | (simp [c57]; with_reducible rfl))))
  · obtain ⟨x, t, hxt⟩ := List.exists_cons_of_ne_nil hne
    have hl0 : 0 < r.length := List.length_pos_iff.2 hne
    have hb := hr x (by simp [hxt])
    have hr0 : r[0] = x := by simp [hxt]
    have e8 := bs_at r 0 hl0 (by rw [hr0]; exact hb) (by simpa using hl0)
    rw [hr0] at e8
    have hrt : r.length = t.length + 1 := by simp [hxt]
    have hrt1 : r.drop 1 = t := by simp [hxt]
    have e1 : IntKind.i64.wrap x = x := wrap_id _ (by omega) (by omega)
    have w1 : IntKind.i64.wrap 1 = 1 := rfl
    have hl0' : ¬ (r.length : Int) = 0 := by omega
    have hl0'' : ¬ r.length = 0 := by omega
    by_cases h1 : x < 248
    · have h2 : ¬ x = 255 := by omega
      have h3 : ¬ 248 ≤ x := by omega
      have hr' : nxt r m = capped x m 1 := by rw [hxt]; simp only [nxt]; rw [if_pos h1]
      rw [hr']
      unfold capped
      refine F_W T57 ?_
      simp only [c57, c57_b, Lift.start]
      by_cases hm : m < x
      · by_cases h0 : 0 < x
        · rw [if_pos ⟨hm, h0⟩]
          repeat (first | refine W_assoc ?_ | (show W _ (.seq (.region _ _) _) _ _; refine W_reg (by simp; with_reducible rfl) ?_) | (show R _ _ _ (_ :: _) _ _ _ _; refine R_op (by simp (maxSteps := 2000000) [hne, hl0, hl0', hl0'', w1, e8, e1, h2, h3, hm, h0, -UInt8.toNat_ofNat']; with_reducible rfl) ?_) | (show R _ _ _ [] _ _ _ _; refine R_nil (by simp; with_reducible rfl) ?_) | (show W _ (.seq (.cond _ _ _) _) _ _; first | refine W_ct (by first | (simp [hne, hl0, hl0', hl0'', w1, e8, e1, h2, h3, hm, h0, -UInt8.toNat_ofNat']; done) | fail) ?_ | refine W_cf (by first | (simp [hne, hl0, hl0', hl0'', w1, e8, e1, h2, h3, hm, h0, -UInt8.toNat_ofNat']; done) | fail) ?_) | refine W_skip ?_ | refine W_bl (c := .seq _ _) ?_ | refine W_bl (c := .region _ _) ?_ | refine W_bl (c := .cond _ _ _) ?_ | refine W_bl (c := .block _ _) ?_ | refine W_rt ?_ | refine W_ex ?_ | refine W_end ?_ | refine W_tail (a := .region _ _) ?_ | refine W_tail (a := .cond _ _ _) ?_ | refine W_tail (a := .ret) ?_ | refine W_tail (a := .exit _) ?_ | refine W_tail (a := .block _ _) ?_ | refine QB_normal ?_ | refine QB_exit ?_ | refine QB_ret ?_ | refine QB_out (by decide) ?_ | refine QL_next ?_ | refine QL_exit ?_ | refine QL_ret ?_ | refine QL_out (by decide) ?_ | (show Fin _ _ .ret _; exact Fin_ret (by first | (simp [c57]; done) | (simp [c57]; with_reducible rfl))) | (show Fin _ _ .normal _; exact Fin_end (by first | (simp [c57]; done) | (simp [c57]; with_reducible rfl))))
        · rw [if_neg (by omega)]
          repeat (first | refine W_assoc ?_ | (show W _ (.seq (.region _ _) _) _ _; refine W_reg (by simp; with_reducible rfl) ?_) | (show R _ _ _ (_ :: _) _ _ _ _; refine R_op (by simp (maxSteps := 2000000) [hne, hl0, hl0', hl0'', w1, e8, e1, h2, h3, hm, h0, -UInt8.toNat_ofNat']; with_reducible rfl) ?_) | (show R _ _ _ [] _ _ _ _; refine R_nil (by simp; with_reducible rfl) ?_) | (show W _ (.seq (.cond _ _ _) _) _ _; first | refine W_ct (by first | (simp [hne, hl0, hl0', hl0'', w1, e8, e1, h2, h3, hm, h0, -UInt8.toNat_ofNat']; done) | fail) ?_ | refine W_cf (by first | (simp [hne, hl0, hl0', hl0'', w1, e8, e1, h2, h3, hm, h0, -UInt8.toNat_ofNat']; done) | fail) ?_) | refine W_skip ?_ | refine W_bl (c := .seq _ _) ?_ | refine W_bl (c := .region _ _) ?_ | refine W_bl (c := .cond _ _ _) ?_ | refine W_bl (c := .block _ _) ?_ | refine W_rt ?_ | refine W_ex ?_ | refine W_end ?_ | refine W_tail (a := .region _ _) ?_ | refine W_tail (a := .cond _ _ _) ?_ | refine W_tail (a := .ret) ?_ | refine W_tail (a := .exit _) ?_ | refine W_tail (a := .block _ _) ?_ | refine QB_normal ?_ | refine QB_exit ?_ | refine QB_ret ?_ | refine QB_out (by decide) ?_ | refine QL_next ?_ | refine QL_exit ?_ | refine QL_ret ?_ | refine QL_out (by decide) ?_ | (show Fin _ _ .ret _; exact Fin_ret (by first | (simp [c57]; done) | (simp [c57]; with_reducible rfl))) | (show Fin _ _ .normal _; exact Fin_end (by first | (simp [c57]; done) | (simp [c57]; with_reducible rfl))))
      · rw [if_neg (by omega)]
        repeat (first | refine W_assoc ?_ | (show W _ (.seq (.region _ _) _) _ _; refine W_reg (by simp; with_reducible rfl) ?_) | (show R _ _ _ (_ :: _) _ _ _ _; refine R_op (by simp (maxSteps := 2000000) [hne, hl0, hl0', hl0'', w1, e8, e1, h2, h3, hm, -UInt8.toNat_ofNat']; with_reducible rfl) ?_) | (show R _ _ _ [] _ _ _ _; refine R_nil (by simp; with_reducible rfl) ?_) | (show W _ (.seq (.cond _ _ _) _) _ _; first | refine W_ct (by first | (simp [hne, hl0, hl0', hl0'', w1, e8, e1, h2, h3, hm, -UInt8.toNat_ofNat']; done) | fail) ?_ | refine W_cf (by first | (simp [hne, hl0, hl0', hl0'', w1, e8, e1, h2, h3, hm, -UInt8.toNat_ofNat']; done) | fail) ?_) | refine W_skip ?_ | refine W_bl (c := .seq _ _) ?_ | refine W_bl (c := .region _ _) ?_ | refine W_bl (c := .cond _ _ _) ?_ | refine W_bl (c := .block _ _) ?_ | refine W_rt ?_ | refine W_ex ?_ | refine W_end ?_ | refine W_tail (a := .region _ _) ?_ | refine W_tail (a := .cond _ _ _) ?_ | refine W_tail (a := .ret) ?_ | refine W_tail (a := .exit _) ?_ | refine W_tail (a := .block _ _) ?_ | refine QB_normal ?_ | refine QB_exit ?_ | refine QB_ret ?_ | refine QB_out (by decide) ?_ | refine QL_next ?_ | refine QL_exit ?_ | refine QL_ret ?_ | refine QL_out (by decide) ?_ | (show Fin _ _ .ret _; exact Fin_ret (by first | (simp [c57]; done) | (simp [c57]; with_reducible rfl))) | (show Fin _ _ .normal _; exact Fin_end (by first | (simp [c57]; done) | (simp [c57]; with_reducible rfl))))
    · have h3 : 248 ≤ x := by omega
      by_cases h2 : x = 255
      · have hr' : nxt r m = (0, 0, 3) := by rw [hxt]; simp [nxt, h2]
        rw [hr']
        refine F_W T57 ?_
        simp only [c57, c57_b, Lift.start]
        have w255 : IntKind.i64.wrap 255 = 255 := rfl
        repeat (first | refine W_assoc ?_ | (show W _ (.seq (.region _ _) _) _ _; refine W_reg (by simp; with_reducible rfl) ?_) | (show R _ _ _ (_ :: _) _ _ _ _; refine R_op (by simp (maxSteps := 2000000) [hne, hl0, hl0', hl0'', w1, e8, e1, h2, w255, -UInt8.toNat_ofNat']; with_reducible rfl) ?_) | (show R _ _ _ [] _ _ _ _; refine R_nil (by simp; with_reducible rfl) ?_) | (show W _ (.seq (.cond _ _ _) _) _ _; first | refine W_ct (by first | (simp [hne, hl0, hl0', hl0'', w1, e8, e1, h2, w255, -UInt8.toNat_ofNat']; done) | fail) ?_ | refine W_cf (by first | (simp [hne, hl0, hl0', hl0'', w1, e8, e1, h2, w255, -UInt8.toNat_ofNat']; done) | fail) ?_) | refine W_skip ?_ | refine W_bl (c := .seq _ _) ?_ | refine W_bl (c := .region _ _) ?_ | refine W_bl (c := .cond _ _ _) ?_ | refine W_bl (c := .block _ _) ?_ | refine W_rt ?_ | refine W_ex ?_ | refine W_end ?_ | refine W_tail (a := .region _ _) ?_ | refine W_tail (a := .cond _ _ _) ?_ | refine W_tail (a := .ret) ?_ | refine W_tail (a := .exit _) ?_ | refine W_tail (a := .block _ _) ?_ | refine QB_normal ?_ | refine QB_exit ?_ | refine QB_ret ?_ | refine QB_out (by decide) ?_ | refine QL_next ?_ | refine QL_exit ?_ | refine QL_ret ?_ | refine QL_out (by decide) ?_ | (show Fin _ _ .ret _; exact Fin_ret (by first | (simp [c57]; done) | (simp [c57]; with_reducible rfl))) | (show Fin _ _ .normal _; exact Fin_end (by first | (simp [c57]; done) | (simp [c57]; with_reducible rfl))))
      · obtain ⟨w, hw, hw1, hw8⟩ : ∃ w : Nat, x = w + 247 ∧ 1 ≤ w ∧ w ≤ 7 := ⟨(x - 247).toNat, by omega, by omega, by omega⟩
        have e3 : IntKind.i64.wrap (x - 247) = w := by rw [wrap_id _ (by omega) (by omega)]; omega
        have e4 : IntKind.i64.wrap (1 + (w : Int)) = 1 + (w : Int) := wrap_id _ (by omega) (by omega)
        have e5 : (x - 247).toNat = w := by omega
        have e6 : x - 247 = (w : Int) := by omega
        by_cases h9 : (t.length : Int) < w
        · have hr' : nxt r m = (0, 0, 2) := by rw [hxt]; simp only [nxt]; rw [if_neg h1, if_neg h2, e6, if_pos h9]
          rw [hr']
          have htl : (r.length : Int) < 1 + w := by omega
          refine F_W T57 ?_
          simp only [c57, c57_b, Lift.start]
          repeat (first | refine W_assoc ?_ | (show W _ (.seq (.region _ _) _) _ _; refine W_reg (by simp; with_reducible rfl) ?_) | (show R _ _ _ (_ :: _) _ _ _ _; refine R_op (by simp (maxSteps := 2000000) [hne, hl0, hl0', hl0'', w1, e8, e1, h2, h3, e3, e4, htl, -UInt8.toNat_ofNat']; with_reducible rfl) ?_) | (show R _ _ _ [] _ _ _ _; refine R_nil (by simp; with_reducible rfl) ?_) | (show W _ (.seq (.cond _ _ _) _) _ _; first | refine W_ct (by first | (simp [hne, hl0, hl0', hl0'', w1, e8, e1, h2, h3, e3, e4, htl, -UInt8.toNat_ofNat']; done) | fail) ?_ | refine W_cf (by first | (simp [hne, hl0, hl0', hl0'', w1, e8, e1, h2, h3, e3, e4, htl, -UInt8.toNat_ofNat']; done) | fail) ?_) | refine W_skip ?_ | refine W_bl (c := .seq _ _) ?_ | refine W_bl (c := .region _ _) ?_ | refine W_bl (c := .cond _ _ _) ?_ | refine W_bl (c := .block _ _) ?_ | refine W_rt ?_ | refine W_ex ?_ | refine W_end ?_ | refine W_tail (a := .region _ _) ?_ | refine W_tail (a := .cond _ _ _) ?_ | refine W_tail (a := .ret) ?_ | refine W_tail (a := .exit _) ?_ | refine W_tail (a := .block _ _) ?_ | refine QB_normal ?_ | refine QB_exit ?_ | refine QB_ret ?_ | refine QB_out (by decide) ?_ | refine QL_next ?_ | refine QL_exit ?_ | refine QL_ret ?_ | refine QL_out (by decide) ?_ | (show Fin _ _ .ret _; exact Fin_ret (by first | (simp [c57]; done) | (simp [c57]; with_reducible rfl))) | (show Fin _ _ .normal _; exact Fin_end (by first | (simp [c57]; done) | (simp [c57]; with_reducible rfl))))
        · have htl : ¬ (r.length : Int) < 1 + w := by omega
          have hv0 := valI_bound (t.take w) (fun d hd => hr d (by rw [hxt]; exact List.mem_cons_of_mem _ (List.mem_of_mem_take hd))) 0 (by omega)
          have hv1 : (256 : Int) ^ (t.take w).length ≤ 256 ^ 7 := by
            have : (t.take w).length ≤ 7 := by rw [List.length_take]; omega
            exact_mod_cast Nat.pow_le_pow_right (by omega) this
          have hr' : nxt r m = if valI 0 (t.take w) < 248 ∨ ((dig (valI 0 (t.take w)).toNat).length : Int) ≠ w then (0, 0, 3) else capped (valI 0 (t.take w)) m (1 + w) := by
            rw [hxt]; simp only [nxt]; rw [if_neg h1, if_neg h2, e5, e6, if_neg h9]
          rw [hr']
          obtain ⟨a, hv⟩ : ∃ a, a = valI 0 (t.take w) := ⟨_, rfl⟩
          rw [← hv] at hv0
          rw [← hv]
          obtain ⟨p, rfl⟩ : ∃ p : Nat, a = p := ⟨a.toNat, by omega⟩
          have hp1 : p < 72057594037927936 := by omega
          rw [Int.toNat_natCast]
          have hL := fun b Q => next_loop r m hr w hw8 (by omega) b Q p
          refine F_W T57 ?_
          simp only [c57, c57_b, Lift.start]
          repeat (first | refine W_assoc ?_ | (show W _ (.seq (.region _ _) _) _ _; refine W_reg (by simp; with_reducible rfl) ?_) | (show R _ _ _ (_ :: _) _ _ _ _; refine R_op (by simp (maxSteps := 2000000) [hne, hl0, hl0', hl0'', w1, e8, e1, h2, h3, e3, e4, htl, -UInt8.toNat_ofNat']; with_reducible rfl) ?_) | (show R _ _ _ [] _ _ _ _; refine R_nil (by simp; with_reducible rfl) ?_) | (show W _ (.seq (.cond _ _ _) _) _ _; first | refine W_ct (by first | (simp [hne, hl0, hl0', hl0'', w1, e8, e1, h2, h3, e3, e4, htl, -UInt8.toNat_ofNat']; done) | fail) ?_ | refine W_cf (by first | (simp [hne, hl0, hl0', hl0'', w1, e8, e1, h2, h3, e3, e4, htl, -UInt8.toNat_ofNat']; done) | fail) ?_) | refine W_skip ?_ | refine W_bl (c := .seq _ _) ?_ | refine W_bl (c := .region _ _) ?_ | refine W_bl (c := .cond _ _ _) ?_ | refine W_bl (c := .block _ _) ?_ | refine W_rt ?_ | refine W_ex ?_ | refine W_end ?_ | refine W_tail (a := .region _ _) ?_ | refine W_tail (a := .cond _ _ _) ?_ | refine W_tail (a := .ret) ?_ | refine W_tail (a := .exit _) ?_ | refine W_tail (a := .block _ _) ?_ | refine QB_normal ?_ | refine QB_exit ?_ | refine QB_ret ?_ | refine QB_out (by decide) ?_ | refine QL_next ?_ | refine QL_exit ?_ | refine QL_ret ?_ | refine QL_out (by decide) ?_ | (show Fin _ _ .ret _; exact Fin_ret (by first | (simp; done) | (simp; with_reducible rfl))) | (show Fin _ _ .normal _; exact Fin_end (by first | (simp; done) | (simp; with_reducible rfl))))
          refine hL _ _ ?_ w 1 0 _ ?_ ?_ ?_ ?_ ?_ ?_
          · by_cases h10 : (p : Int) < 248
            · rw [if_pos (.inl h10)]
              repeat (first | refine W_assoc ?_ | (show W _ (.seq (.region _ _) _) _ _; refine W_reg (by simp; with_reducible rfl) ?_) | (show R _ _ _ (_ :: _) _ _ _ _; refine R_op (by simp (maxSteps := 2000000) [h10]; with_reducible rfl) ?_) | (show R _ _ _ [] _ _ _ _; refine R_nil (by simp; with_reducible rfl) ?_) | (show W _ (.seq (.cond _ _ _) _) _ _; first | refine W_ct (by first | (simp [h10]; done) | fail) ?_ | refine W_cf (by first | (simp [h10]; done) | fail) ?_) | refine W_skip ?_ | refine W_bl (c := .seq _ _) ?_ | refine W_bl (c := .region _ _) ?_ | refine W_bl (c := .cond _ _ _) ?_ | refine W_bl (c := .block _ _) ?_ | refine W_rt ?_ | refine W_ex ?_ | refine W_end ?_ | refine W_tail (a := .region _ _) ?_ | refine W_tail (a := .cond _ _ _) ?_ | refine W_tail (a := .ret) ?_ | refine W_tail (a := .exit _) ?_ | refine W_tail (a := .block _ _) ?_ | refine QB_normal ?_ | refine QB_exit ?_ | refine QB_ret ?_ | refine QB_out (by decide) ?_ | refine QL_next ?_ | refine QL_exit ?_ | refine QL_ret ?_ | refine QL_out (by decide) ?_ | (show Fin _ _ .ret _; exact Fin_ret (by first | (simp [c57]; done) | (simp [c57]; with_reducible rfl))) | (show Fin _ _ .normal _; exact Fin_end (by first | (simp [c57]; done) | (simp [c57]; with_reducible rfl))))
            · have f30 := V_Bytes p hp1 (by omega)
              have h0 : 0 < p := by omega
              have h0' : (0 : Int) < p := by omega
              by_cases h11 : ((dig p).length : Int) = w
              · rw [if_neg (by rintro (h | h); exact h10 h; exact h h11)]
                have h11' : (dig p).length = w := by omega
                unfold capped
                by_cases hm : m < (p : Int)
                · rw [if_pos ⟨hm, h0'⟩]
                  repeat (first | refine W_assoc ?_ | (show W _ (.seq (.region _ _) _) _ _; refine W_reg (by simp; with_reducible rfl) ?_) | (show R _ _ _ (_ :: _) _ _ _ _; refine R_op (by simp (maxSteps := 2000000) [h10, f30, h11, h11', hm, h0, h0', e4]; with_reducible rfl) ?_) | (show R _ _ _ [] _ _ _ _; refine R_nil (by simp; with_reducible rfl) ?_) | (show W _ (.seq (.cond _ _ _) _) _ _; first | refine W_ct (by first | (simp [h10, f30, h11, h11', hm, h0, h0', e4]; done) | fail) ?_ | refine W_cf (by first | (simp [h10, f30, h11, h11', hm, h0, h0', e4]; done) | fail) ?_) | refine W_skip ?_ | refine W_bl (c := .seq _ _) ?_ | refine W_bl (c := .region _ _) ?_ | refine W_bl (c := .cond _ _ _) ?_ | refine W_bl (c := .block _ _) ?_ | refine W_rt ?_ | refine W_ex ?_ | refine W_end ?_ | refine W_tail (a := .region _ _) ?_ | refine W_tail (a := .cond _ _ _) ?_ | refine W_tail (a := .ret) ?_ | refine W_tail (a := .exit _) ?_ | refine W_tail (a := .block _ _) ?_ | refine QB_normal ?_ | refine QB_exit ?_ | refine QB_ret ?_ | refine QB_out (by decide) ?_ | refine QL_next ?_ | refine QL_exit ?_ | refine QL_ret ?_ | refine QL_out (by decide) ?_ | (show Fin _ _ .ret _; exact Fin_ret (by first | (simp [c57]; done) | (simp [c57]; with_reducible rfl))) | (show Fin _ _ .normal _; exact Fin_end (by first | (simp [c57]; done) | (simp [c57]; with_reducible rfl))))
                · rw [if_neg (by omega)]
                  repeat (first | refine W_assoc ?_ | (show W _ (.seq (.region _ _) _) _ _; refine W_reg (by simp; with_reducible rfl) ?_) | (show R _ _ _ (_ :: _) _ _ _ _; refine R_op (by simp (maxSteps := 2000000) [h10, f30, h11, h11', hm, e4]; with_reducible rfl) ?_) | (show R _ _ _ [] _ _ _ _; refine R_nil (by simp; with_reducible rfl) ?_) | (show W _ (.seq (.cond _ _ _) _) _ _; first | refine W_ct (by first | (simp [h10, f30, h11, h11', hm, e4]; done) | fail) ?_ | refine W_cf (by first | (simp [h10, f30, h11, h11', hm, e4]; done) | fail) ?_) | refine W_skip ?_ | refine W_bl (c := .seq _ _) ?_ | refine W_bl (c := .region _ _) ?_ | refine W_bl (c := .cond _ _ _) ?_ | refine W_bl (c := .block _ _) ?_ | refine W_rt ?_ | refine W_ex ?_ | refine W_end ?_ | refine W_tail (a := .region _ _) ?_ | refine W_tail (a := .cond _ _ _) ?_ | refine W_tail (a := .ret) ?_ | refine W_tail (a := .exit _) ?_ | refine W_tail (a := .block _ _) ?_ | refine QB_normal ?_ | refine QB_exit ?_ | refine QB_ret ?_ | refine QB_out (by decide) ?_ | refine QL_next ?_ | refine QL_exit ?_ | refine QL_ret ?_ | refine QL_out (by decide) ?_ | (show Fin _ _ .ret _; exact Fin_ret (by first | (simp [c57]; done) | (simp [c57]; with_reducible rfl))) | (show Fin _ _ .normal _; exact Fin_end (by first | (simp [c57]; done) | (simp [c57]; with_reducible rfl))))
              · rw [if_pos (.inr h11)]
                have h11' : ¬ (dig p).length = w := by omega
                repeat (first | refine W_assoc ?_ | (show W _ (.seq (.region _ _) _) _ _; refine W_reg (by simp; with_reducible rfl) ?_) | (show R _ _ _ (_ :: _) _ _ _ _; refine R_op (by simp (maxSteps := 2000000) [h10, f30, h11, h11']; with_reducible rfl) ?_) | (show R _ _ _ [] _ _ _ _; refine R_nil (by simp; with_reducible rfl) ?_) | (show W _ (.seq (.cond _ _ _) _) _ _; first | refine W_ct (by first | (simp [h10, f30, h11, h11']; done) | fail) ?_ | refine W_cf (by first | (simp [h10, f30, h11, h11']; done) | fail) ?_) | refine W_skip ?_ | refine W_bl (c := .seq _ _) ?_ | refine W_bl (c := .region _ _) ?_ | refine W_bl (c := .cond _ _ _) ?_ | refine W_bl (c := .block _ _) ?_ | refine W_rt ?_ | refine W_ex ?_ | refine W_end ?_ | refine W_tail (a := .region _ _) ?_ | refine W_tail (a := .cond _ _ _) ?_ | refine W_tail (a := .ret) ?_ | refine W_tail (a := .exit _) ?_ | refine W_tail (a := .block _ _) ?_ | refine QB_normal ?_ | refine QB_exit ?_ | refine QB_ret ?_ | refine QB_out (by decide) ?_ | refine QL_next ?_ | refine QL_exit ?_ | refine QL_ret ?_ | refine QL_out (by decide) ?_ | (show Fin _ _ .ret _; exact Fin_ret (by first | (simp [c57]; done) | (simp [c57]; with_reducible rfl))) | (show Fin _ _ .normal _; exact Fin_end (by first | (simp [c57]; done) | (simp [c57]; with_reducible rfl))))
          · omega
          · omega
          · omega
          · simp
          · rw [hrt1]; exact hv
          · simp

/-- The document's reader. -/
abbrev mv (r : List Int) (e : Int) : AObj := ⟨29, 2, true, [[.str (bs r), .int .i64 e]], 0⟩

theorem F_MFail (r : List Int) (e c : Int) : F T 21 [.ref 0 0 0, .int .i64 c] [mv r e] = some (.tup [], [mv r (if e = 0 then c else e)]) := by
  refine F_W T21 ?_
  simp only [c21, c21_b, Lift.start]
  by_cases h : e = 0
  · subst h
    rw [if_pos rfl]
    repeat (first | refine W_assoc ?_ | (show W _ (.seq (.region _ _) _) _ _; refine W_reg (by simp; with_reducible rfl) ?_) | (show R _ _ _ (_ :: _) _ _ _ _; refine R_op (by simp (maxSteps := 2000000); with_reducible rfl) ?_) | (show R _ _ _ [] _ _ _ _; refine R_nil (by simp; with_reducible rfl) ?_) | (show W _ (.seq (.cond _ _ _) _) _ _; first | refine W_ct (by first | (simp; done) | fail) ?_ | refine W_cf (by first | (simp; done) | fail) ?_) | refine W_skip ?_ | refine W_bl (c := .seq _ _) ?_ | refine W_bl (c := .region _ _) ?_ | refine W_bl (c := .cond _ _ _) ?_ | refine W_bl (c := .block _ _) ?_ | refine W_rt ?_ | refine W_ex ?_ | refine W_end ?_ | refine W_tail (a := .region _ _) ?_ | refine W_tail (a := .cond _ _ _) ?_ | refine W_tail (a := .ret) ?_ | refine W_tail (a := .exit _) ?_ | refine W_tail (a := .block _ _) ?_ | refine QB_normal ?_ | refine QB_exit ?_ | refine QB_ret ?_ | refine QB_out (by decide) ?_ | refine QL_next ?_ | refine QL_exit ?_ | refine QL_ret ?_ | refine QL_out (by decide) ?_ | (show Fin _ _ .ret _; exact Fin_ret (by first | (simp [c21]; done) | (simp [c21]; with_reducible rfl))) | (show Fin _ _ .normal _; exact Fin_end (by first | (simp [c21]; done) | (simp [c21]; with_reducible rfl))))
  · rw [if_neg h]
    repeat (first | refine W_assoc ?_ | (show W _ (.seq (.region _ _) _) _ _; refine W_reg (by simp; with_reducible rfl) ?_) | (show R _ _ _ (_ :: _) _ _ _ _; refine R_op (by simp (maxSteps := 2000000) [h]; with_reducible rfl) ?_) | (show R _ _ _ [] _ _ _ _; refine R_nil (by simp; with_reducible rfl) ?_) | (show W _ (.seq (.cond _ _ _) _) _ _; first | refine W_ct (by first | (simp [h]; done) | fail) ?_ | refine W_cf (by first | (simp [h]; done) | fail) ?_) | refine W_skip ?_ | refine W_bl (c := .seq _ _) ?_ | refine W_bl (c := .region _ _) ?_ | refine W_bl (c := .cond _ _ _) ?_ | refine W_bl (c := .block _ _) ?_ | refine W_rt ?_ | refine W_ex ?_ | refine W_end ?_ | refine W_tail (a := .region _ _) ?_ | refine W_tail (a := .cond _ _ _) ?_ | refine W_tail (a := .ret) ?_ | refine W_tail (a := .exit _) ?_ | refine W_tail (a := .block _ _) ?_ | refine QB_normal ?_ | refine QB_exit ?_ | refine QB_ret ?_ | refine QB_out (by decide) ?_ | refine QL_next ?_ | refine QL_exit ?_ | refine QL_ret ?_ | refine QL_out (by decide) ?_ | (show Fin _ _ .ret _; exact Fin_ret (by first | (simp [c21]; done) | (simp [c21]; with_reducible rfl))) | (show Fin _ _ .normal _; exact Fin_end (by first | (simp [c21]; done) | (simp [c21]; with_reducible rfl))))

theorem F_MEnd (r : List Int) (e : Int) : F T 25 [.ref 0 0 0] [mv r e] = some (.int .i64 (endE e r.length), [mv r e]) := by
  unfold endE
  refine F_W T25 ?_
  simp only [c25, c25_b, Lift.start]
  by_cases he : e = 0
  · subst he
    rw [if_neg (by simp)]
    by_cases hn : 0 < r.length
    · rw [if_pos hn]
      repeat (first | refine W_assoc ?_ | (show W _ (.seq (.region _ _) _) _ _; refine W_reg (by simp; with_reducible rfl) ?_) | (show R _ _ _ (_ :: _) _ _ _ _; refine R_op (by simp (maxSteps := 2000000) [hn]; with_reducible rfl) ?_) | (show R _ _ _ [] _ _ _ _; refine R_nil (by simp; with_reducible rfl) ?_) | (show W _ (.seq (.cond _ _ _) _) _ _; first | refine W_ct (by first | (simp [hn]; done) | fail) ?_ | refine W_cf (by first | (simp [hn]; done) | fail) ?_) | refine W_skip ?_ | refine W_bl (c := .seq _ _) ?_ | refine W_bl (c := .region _ _) ?_ | refine W_bl (c := .cond _ _ _) ?_ | refine W_bl (c := .block _ _) ?_ | refine W_rt ?_ | refine W_ex ?_ | refine W_end ?_ | refine W_tail (a := .region _ _) ?_ | refine W_tail (a := .cond _ _ _) ?_ | refine W_tail (a := .ret) ?_ | refine W_tail (a := .exit _) ?_ | refine W_tail (a := .block _ _) ?_ | refine QB_normal ?_ | refine QB_exit ?_ | refine QB_ret ?_ | refine QB_out (by decide) ?_ | refine QL_next ?_ | refine QL_exit ?_ | refine QL_ret ?_ | refine QL_out (by decide) ?_ | (show Fin _ _ .ret _; exact Fin_ret (by first | (simp [c25]; done) | (simp [c25]; with_reducible rfl))) | (show Fin _ _ .normal _; exact Fin_end (by first | (simp [c25]; done) | (simp [c25]; with_reducible rfl))))
    · rw [if_neg hn]
      repeat (first | refine W_assoc ?_ | (show W _ (.seq (.region _ _) _) _ _; refine W_reg (by simp; with_reducible rfl) ?_) | (show R _ _ _ (_ :: _) _ _ _ _; refine R_op (by simp (maxSteps := 2000000) [hn]; with_reducible rfl) ?_) | (show R _ _ _ [] _ _ _ _; refine R_nil (by simp; with_reducible rfl) ?_) | (show W _ (.seq (.cond _ _ _) _) _ _; first | refine W_ct (by first | (simp [hn]; done) | fail) ?_ | refine W_cf (by first | (simp [hn]; done) | fail) ?_) | refine W_skip ?_ | refine W_bl (c := .seq _ _) ?_ | refine W_bl (c := .region _ _) ?_ | refine W_bl (c := .cond _ _ _) ?_ | refine W_bl (c := .block _ _) ?_ | refine W_rt ?_ | refine W_ex ?_ | refine W_end ?_ | refine W_tail (a := .region _ _) ?_ | refine W_tail (a := .cond _ _ _) ?_ | refine W_tail (a := .ret) ?_ | refine W_tail (a := .exit _) ?_ | refine W_tail (a := .block _ _) ?_ | refine QB_normal ?_ | refine QB_exit ?_ | refine QB_ret ?_ | refine QB_out (by decide) ?_ | refine QL_next ?_ | refine QL_exit ?_ | refine QL_ret ?_ | refine QL_out (by decide) ?_ | (show Fin _ _ .ret _; exact Fin_ret (by first | (simp [c25]; done) | (simp [c25]; with_reducible rfl))) | (show Fin _ _ .normal _; exact Fin_end (by first | (simp [c25]; done) | (simp [c25]; with_reducible rfl))))
  · rw [if_pos he]
    repeat (first | refine W_assoc ?_ | (show W _ (.seq (.region _ _) _) _ _; refine W_reg (by simp; with_reducible rfl) ?_) | (show R _ _ _ (_ :: _) _ _ _ _; refine R_op (by simp (maxSteps := 2000000) [he]; with_reducible rfl) ?_) | (show R _ _ _ [] _ _ _ _; refine R_nil (by simp; with_reducible rfl) ?_) | (show W _ (.seq (.cond _ _ _) _) _ _; first | refine W_ct (by first | (simp [he]; done) | fail) ?_ | refine W_cf (by first | (simp [he]; done) | fail) ?_) | refine W_skip ?_ | refine W_bl (c := .seq _ _) ?_ | refine W_bl (c := .region _ _) ?_ | refine W_bl (c := .cond _ _ _) ?_ | refine W_bl (c := .block _ _) ?_ | refine W_rt ?_ | refine W_ex ?_ | refine W_end ?_ | refine W_tail (a := .region _ _) ?_ | refine W_tail (a := .cond _ _ _) ?_ | refine W_tail (a := .ret) ?_ | refine W_tail (a := .exit _) ?_ | refine W_tail (a := .block _ _) ?_ | refine QB_normal ?_ | refine QB_exit ?_ | refine QB_ret ?_ | refine QB_out (by decide) ?_ | refine QL_next ?_ | refine QL_exit ?_ | refine QL_ret ?_ | refine QL_out (by decide) ?_ | (show Fin _ _ .ret _; exact Fin_ret (by first | (simp [c25]; done) | (simp [c25]; with_reducible rfl))) | (show Fin _ _ .normal _; exact Fin_end (by first | (simp [c25]; done) | (simp [c25]; with_reducible rfl))))

theorem F_MNum (r : List Int) (e m : Int) (hr : ∀ a ∈ r, 0 ≤ a ∧ a ≤ 255) (hn : r.length < 100000) : F T 17 [.ref 0 0 0, .int .i64 m] [mv r e] = some (.int .i64 (rdN r e m).1, [mv (r.drop (rdN r e m).2.1) (rdN r e m).2.2]) := by
  refine F_W T17 ?_
  simp only [c17, c17_b, Lift.start]
  by_cases he : e = 0
  · subst he
    have hF := FV_of (F_Next r m hr hn)
    simp only [clo, List.map] at hF
    have hok := nxt_ok r m hr
    have hr' : rdN r 0 m = if (nxt r m).2.2 ≠ 0 then (0, 0, (nxt r m).2.2) else ((nxt r m).1, (nxt r m).2.1, 0) := by simp [rdN]
    rw [hr']
    generalize nxt r m = q at hF hok
    obtain ⟨a, k, c⟩ := q
    simp only [] at hF hok ⊢
    by_cases hc : c = 0
    · subst hc
      have hk : k ≤ r.length := (hok rfl).2.1
      rw [if_neg (by simp)]
      repeat (first | refine W_assoc ?_ | (show W _ (.seq (.region _ _) _) _ _; refine W_reg (by simp; with_reducible rfl) ?_) | (show R _ _ _ (_ :: _) _ _ _ _; refine R_op (by simp (maxSteps := 2000000) [hF, hk]; with_reducible rfl) ?_) | (show R _ _ _ [] _ _ _ _; refine R_nil (by simp; with_reducible rfl) ?_) | (show W _ (.seq (.cond _ _ _) _) _ _; first | refine W_ct (by first | (simp [hF, hk]; done) | fail) ?_ | refine W_cf (by first | (simp [hF, hk]; done) | fail) ?_) | refine W_skip ?_ | refine W_bl (c := .seq _ _) ?_ | refine W_bl (c := .region _ _) ?_ | refine W_bl (c := .cond _ _ _) ?_ | refine W_bl (c := .block _ _) ?_ | refine W_rt ?_ | refine W_ex ?_ | refine W_end ?_ | refine W_tail (a := .region _ _) ?_ | refine W_tail (a := .cond _ _ _) ?_ | refine W_tail (a := .ret) ?_ | refine W_tail (a := .exit _) ?_ | refine W_tail (a := .block _ _) ?_ | refine QB_normal ?_ | refine QB_exit ?_ | refine QB_ret ?_ | refine QB_out (by decide) ?_ | refine QL_next ?_ | refine QL_exit ?_ | refine QL_ret ?_ | refine QL_out (by decide) ?_ | (show Fin _ _ .ret _; exact Fin_ret (by first | (simp [c17]; done) | (simp [c17]; with_reducible rfl))) | (show Fin _ _ .normal _; exact Fin_end (by first | (simp [c17]; done) | (simp [c17]; with_reducible rfl))))
    · rw [if_pos hc]
      repeat (first | refine W_assoc ?_ | (show W _ (.seq (.region _ _) _) _ _; refine W_reg (by simp; with_reducible rfl) ?_) | (show R _ _ _ (_ :: _) _ _ _ _; refine R_op (by simp (maxSteps := 2000000) [hF, hc]; with_reducible rfl) ?_) | (show R _ _ _ [] _ _ _ _; refine R_nil (by simp; with_reducible rfl) ?_) | (show W _ (.seq (.cond _ _ _) _) _ _; first | refine W_ct (by first | (simp [hF, hc]; done) | fail) ?_ | refine W_cf (by first | (simp [hF, hc]; done) | fail) ?_) | refine W_skip ?_ | refine W_bl (c := .seq _ _) ?_ | refine W_bl (c := .region _ _) ?_ | refine W_bl (c := .cond _ _ _) ?_ | refine W_bl (c := .block _ _) ?_ | refine W_rt ?_ | refine W_ex ?_ | refine W_end ?_ | refine W_tail (a := .region _ _) ?_ | refine W_tail (a := .cond _ _ _) ?_ | refine W_tail (a := .ret) ?_ | refine W_tail (a := .exit _) ?_ | refine W_tail (a := .block _ _) ?_ | refine QB_normal ?_ | refine QB_exit ?_ | refine QB_ret ?_ | refine QB_out (by decide) ?_ | refine QL_next ?_ | refine QL_exit ?_ | refine QL_ret ?_ | refine QL_out (by decide) ?_ | (show Fin _ _ .ret _; exact Fin_ret (by first | (simp [c17]; done) | (simp [c17]; with_reducible rfl))) | (show Fin _ _ .normal _; exact Fin_end (by first | (simp [c17]; done) | (simp [c17]; with_reducible rfl))))
  · have hr : rdN r e m = (0, 0, e) := by simp [rdN, he]
    rw [hr]
    repeat (first | refine W_assoc ?_ | (show W _ (.seq (.region _ _) _) _ _; refine W_reg (by simp; with_reducible rfl) ?_) | (show R _ _ _ (_ :: _) _ _ _ _; refine R_op (by simp (maxSteps := 2000000) [he]; with_reducible rfl) ?_) | (show R _ _ _ [] _ _ _ _; refine R_nil (by simp; with_reducible rfl) ?_) | (show W _ (.seq (.cond _ _ _) _) _ _; first | refine W_ct (by first | (simp [he]; done) | fail) ?_ | refine W_cf (by first | (simp [he]; done) | fail) ?_) | refine W_skip ?_ | refine W_bl (c := .seq _ _) ?_ | refine W_bl (c := .region _ _) ?_ | refine W_bl (c := .cond _ _ _) ?_ | refine W_bl (c := .block _ _) ?_ | refine W_rt ?_ | refine W_ex ?_ | refine W_end ?_ | refine W_tail (a := .region _ _) ?_ | refine W_tail (a := .cond _ _ _) ?_ | refine W_tail (a := .ret) ?_ | refine W_tail (a := .exit _) ?_ | refine W_tail (a := .block _ _) ?_ | refine QB_normal ?_ | refine QB_exit ?_ | refine QB_ret ?_ | refine QB_out (by decide) ?_ | refine QL_next ?_ | refine QL_exit ?_ | refine QL_ret ?_ | refine QL_out (by decide) ?_ | (show Fin _ _ .ret _; exact Fin_ret (by first | (simp [c17]; done) | (simp [c17]; with_reducible rfl))) | (show Fin _ _ .normal _; exact Fin_end (by first | (simp [c17]; done) | (simp [c17]; with_reducible rfl))))

theorem F_MText (r : List Int) (e m : Int) (hr : ∀ a ∈ r, 0 ≤ a ∧ a ≤ 255) (hn : r.length < 100000) : F T 19 [.ref 0 0 0, .int .i64 m] [mv r e] = some (.str (bs (rdT r e m).1), [mv (r.drop (rdT r e m).2.1) (rdT r e m).2.2]) := by
  refine F_W T19 ?_
  simp only [c19, c19_b, Lift.start]
  by_cases he : e = 0
  · subst he
    have hF := FV_of (F_Next r m hr hn)
    simp only [clo, List.map] at hF
    have hok := nxt_ok r m hr
    have hr' : rdT r 0 m = if (nxt r m).2.2 ≠ 0 then ([], 0, (nxt r m).2.2) else if (r.length : Int) - (nxt r m).2.1 < (nxt r m).1 then ([], 0, 2) else ((r.drop (nxt r m).2.1).take (nxt r m).1.toNat, (nxt r m).2.1 + (nxt r m).1.toNat, 0) := by simp [rdT]
    rw [hr']
    generalize nxt r m = q at hF hok
    obtain ⟨a, k, c⟩ := q
    simp only [] at hF hok ⊢
    by_cases hc : c = 0
    · subst hc
      obtain ⟨h1, h2, h3, h4⟩ := hok rfl
      obtain ⟨p, rfl⟩ : ∃ p : Nat, a = p := ⟨a.toNat, by omega⟩
      have e1 : IntKind.i64.wrap ((r.length : Int) - k) = (r.length : Int) - k := wrap_id _ (by omega) (by omega)
      obtain ⟨q, hq⟩ : ∃ q, q = k + p := ⟨_, rfl⟩
      have e2 : IntKind.i64.wrap ((k : Int) + p) = (q : Int) := by rw [wrap_id _ (by omega) (by omega)]; omega
      rw [if_neg (by simp)]
      by_cases h5 : (r.length : Int) - k < p
      · rw [if_pos h5]
        repeat (first | refine W_assoc ?_ | (show W _ (.seq (.region _ _) _) _ _; refine W_reg (by simp; with_reducible rfl) ?_) | (show R _ _ _ (_ :: _) _ _ _ _; refine R_op (by simp (maxSteps := 2000000) [hF, e1, e2, h5]; with_reducible rfl) ?_) | (show R _ _ _ [] _ _ _ _; refine R_nil (by simp; with_reducible rfl) ?_) | (show W _ (.seq (.cond _ _ _) _) _ _; first | refine W_ct (by first | (simp [hF, e1, e2, h5]; done) | fail) ?_ | refine W_cf (by first | (simp [hF, e1, e2, h5]; done) | fail) ?_) | refine W_skip ?_ | refine W_bl (c := .seq _ _) ?_ | refine W_bl (c := .region _ _) ?_ | refine W_bl (c := .cond _ _ _) ?_ | refine W_bl (c := .block _ _) ?_ | refine W_rt ?_ | refine W_ex ?_ | refine W_end ?_ | refine W_tail (a := .region _ _) ?_ | refine W_tail (a := .cond _ _ _) ?_ | refine W_tail (a := .ret) ?_ | refine W_tail (a := .exit _) ?_ | refine W_tail (a := .block _ _) ?_ | refine QB_normal ?_ | refine QB_exit ?_ | refine QB_ret ?_ | refine QB_out (by decide) ?_ | refine QL_next ?_ | refine QL_exit ?_ | refine QL_ret ?_ | refine QL_out (by decide) ?_ | (show Fin _ _ .ret _; exact Fin_ret (by first | (simp [c19, bs0]; done) | (simp [c19, bs0]; with_reducible rfl))) | (show Fin _ _ .normal _; exact Fin_end (by first | (simp [c19, bs0]; done) | (simp [c19, bs0]; with_reducible rfl))))
      · have h6 : q ≤ r.length := by omega
        have h6' : k ≤ q := by omega
        have h8 : (r.take q).drop k = (r.drop k).take p := by rw [List.drop_take]; congr 1; omega
        rw [if_neg h5, Int.toNat_natCast]
        repeat (first | refine W_assoc ?_ | (show W _ (.seq (.region _ _) _) _ _; refine W_reg (by simp; with_reducible rfl) ?_) | (show R _ _ _ (_ :: _) _ _ _ _; refine R_op (by simp (maxSteps := 2000000) [hF, e1, e2, h5, h6, h6']; with_reducible rfl) ?_) | (show R _ _ _ [] _ _ _ _; refine R_nil (by simp; with_reducible rfl) ?_) | (show W _ (.seq (.cond _ _ _) _) _ _; first | refine W_ct (by first | (simp [hF, e1, e2, h5, h6, h6']; done) | fail) ?_ | refine W_cf (by first | (simp [hF, e1, e2, h5, h6, h6']; done) | fail) ?_) | refine W_skip ?_ | refine W_bl (c := .seq _ _) ?_ | refine W_bl (c := .region _ _) ?_ | refine W_bl (c := .cond _ _ _) ?_ | refine W_bl (c := .block _ _) ?_ | refine W_rt ?_ | refine W_ex ?_ | refine W_end ?_ | refine W_tail (a := .region _ _) ?_ | refine W_tail (a := .cond _ _ _) ?_ | refine W_tail (a := .ret) ?_ | refine W_tail (a := .exit _) ?_ | refine W_tail (a := .block _ _) ?_ | refine QB_normal ?_ | refine QB_exit ?_ | refine QB_ret ?_ | refine QB_out (by decide) ?_ | refine QL_next ?_ | refine QL_exit ?_ | refine QL_ret ?_ | refine QL_out (by decide) ?_ | (show Fin _ _ .ret _; exact Fin_ret (by first | (simp [c19, bs0, h8, ← hq]; done) | (simp [c19, bs0, h8, ← hq]; with_reducible rfl))) | (show Fin _ _ .normal _; exact Fin_end (by first | (simp [c19, bs0, h8, ← hq]; done) | (simp [c19, bs0, h8, ← hq]; with_reducible rfl))))
    · rw [if_pos hc]
      repeat (first | refine W_assoc ?_ | (show W _ (.seq (.region _ _) _) _ _; refine W_reg (by simp; with_reducible rfl) ?_) | (show R _ _ _ (_ :: _) _ _ _ _; refine R_op (by simp (maxSteps := 2000000) [hF, hc]; with_reducible rfl) ?_) | (show R _ _ _ [] _ _ _ _; refine R_nil (by simp; with_reducible rfl) ?_) | (show W _ (.seq (.cond _ _ _) _) _ _; first | refine W_ct (by first | (simp [hF, hc]; done) | fail) ?_ | refine W_cf (by first | (simp [hF, hc]; done) | fail) ?_) | refine W_skip ?_ | refine W_bl (c := .seq _ _) ?_ | refine W_bl (c := .region _ _) ?_ | refine W_bl (c := .cond _ _ _) ?_ | refine W_bl (c := .block _ _) ?_ | refine W_rt ?_ | refine W_ex ?_ | refine W_end ?_ | refine W_tail (a := .region _ _) ?_ | refine W_tail (a := .cond _ _ _) ?_ | refine W_tail (a := .ret) ?_ | refine W_tail (a := .exit _) ?_ | refine W_tail (a := .block _ _) ?_ | refine QB_normal ?_ | refine QB_exit ?_ | refine QB_ret ?_ | refine QB_out (by decide) ?_ | refine QL_next ?_ | refine QL_exit ?_ | refine QL_ret ?_ | refine QL_out (by decide) ?_ | (show Fin _ _ .ret _; exact Fin_ret (by first | (simp [c19, bs0]; done) | (simp [c19, bs0]; with_reducible rfl))) | (show Fin _ _ .normal _; exact Fin_end (by first | (simp [c19, bs0]; done) | (simp [c19, bs0]; with_reducible rfl))))
  · have hr : rdT r e m = ([], 0, e) := by simp [rdT, he]
    rw [hr]
    repeat (first | refine W_assoc ?_ | (show W _ (.seq (.region _ _) _) _ _; refine W_reg (by simp; with_reducible rfl) ?_) | (show R _ _ _ (_ :: _) _ _ _ _; refine R_op (by simp (maxSteps := 2000000) [he]; with_reducible rfl) ?_) | (show R _ _ _ [] _ _ _ _; refine R_nil (by simp; with_reducible rfl) ?_) | (show W _ (.seq (.cond _ _ _) _) _ _; first | refine W_ct (by first | (simp [he]; done) | fail) ?_ | refine W_cf (by first | (simp [he]; done) | fail) ?_) | refine W_skip ?_ | refine W_bl (c := .seq _ _) ?_ | refine W_bl (c := .region _ _) ?_ | refine W_bl (c := .cond _ _ _) ?_ | refine W_bl (c := .block _ _) ?_ | refine W_rt ?_ | refine W_ex ?_ | refine W_end ?_ | refine W_tail (a := .region _ _) ?_ | refine W_tail (a := .cond _ _ _) ?_ | refine W_tail (a := .ret) ?_ | refine W_tail (a := .exit _) ?_ | refine W_tail (a := .block _ _) ?_ | refine QB_normal ?_ | refine QB_exit ?_ | refine QB_ret ?_ | refine QB_out (by decide) ?_ | refine QL_next ?_ | refine QL_exit ?_ | refine QL_ret ?_ | refine QL_out (by decide) ?_ | (show Fin _ _ .ret _; exact Fin_ret (by first | (simp [c19, bs0]; done) | (simp [c19, bs0]; with_reducible rfl))) | (show Fin _ _ .normal _; exact Fin_end (by first | (simp [c19, bs0]; done) | (simp [c19, bs0]; with_reducible rfl))))

end Go.Proofs.Ytnobgooojbppbac.Oct
