/- Messages: what the parsers come to. -/
import Derived.Test.YtnobgooojbppbacMsg
set_option linter.all false
set_option linter.unusedSimpArgs false
set_option maxRecDepth 100000
set_option maxHeartbeats 8000000
namespace Go.Proofs.Ytnobgooojbppbac.Oct
open Go Go.RowKit Go.Proofs.Ytnobgooojbppbac.Lift Go.Proofs.Ytnobgooojbppbac.TOC Go.Proofs.Ytnobgooojbppbac.Base

theorem sb_bs (x : List Int) (h : ∀ a ∈ x, 0 ≤ a ∧ a ≤ 255) : sb (bs x) = x := by
  unfold sb
  rw [bs_data, List.map_map]
  conv => rhs; rw [← List.map_id x]
  exact List.map_congr_left fun a ha => u8_back a (h a ha)
theorem bytesRow_bs (x : List Int) (h : ∀ a ∈ x, 0 ≤ a ∧ a ≤ 255) : Lift.bytesRow (bs x) = enc (eInt .u8) x := by rw [bytesRow_eq, sb_bs x h]

theorem rdN_nn (r : List Int) (e m : Int) (hr : ∀ a ∈ r, 0 ≤ a ∧ a ≤ 255) : 0 ≤ (rdN r e m).1 := by
  have h1 := nxt_ok r m hr
  unfold rdN
  split
  · simp
  · split
    · simp
    · rename_i h; exact (h1 (by simpa using h)).2.2.1
theorem rdN_le (r : List Int) (e m : Int) (hr : ∀ a ∈ r, 0 ≤ a ∧ a ≤ 255) : (rdN r e m).2.1 ≤ r.length := by
  have h1 := nxt_ok r m hr
  unfold rdN
  split
  · simp
  · split
    · simp
    · rename_i h; exact (h1 (by simpa using h)).2.1
theorem rdL_le (r : List Int) (e m : Int) (hr : ∀ a ∈ r, 0 ≤ a ∧ a ≤ 255) : (rdL r e m).2.1 ≤ r.length := rdN_le r e m hr
theorem InR.next {x : List Int} {lo n k : Nat} (h : InR x lo n) (hk : k ≤ n) : InR x (lo + k) (n - k) := ⟨h.hx, by have := h.hlo; omega, h.hn⟩
theorem InR.len {x : List Int} {lo n : Nat} (h : InR x lo n) : (x.drop lo).length = n := by rw [List.length_drop]; have := h.hlo; omega
theorem InR.rg {x : List Int} {lo n : Nat} (h : InR x lo n) : ∀ a ∈ x.drop lo, 0 ≤ a ∧ a ≤ 255 := fun a ha => h.hx a (List.mem_of_mem_drop ha)

theorem F_least {x : List Int} {lo n : Nat} (h : InR x lo n) (e m : Int) : F T 58 [.ref 0 0 0, .int .i64 m] [rv lo n e, rr x] = some (.int .i64 (rdL (x.drop lo) e m).1, [rv (lo + (rdL (x.drop lo) e m).2.1) (n - (rdL (x.drop lo) e m).2.1) (rdL (x.drop lo) e m).2.2, rr x]) := by
  have f1 := F_RNum h e m
  unfold rdL
  generalize rdN (x.drop lo) e m = q at *
  obtain ⟨a, k, c⟩ := q
  simp only [] at f1 ⊢
  have f2 := F_Fail x (lo + k) (n - k) c 3
  refine F_W T58 ?_
  simp only [c58, c58_b, Lift.start]
  by_cases ha : a = 0
  · rw [if_pos ha]
    subst ha
    repeat (first | refine W_assoc ?_ | (show W _ (.seq (.region _ _) _) _ _; refine W_reg (by simp; with_reducible rfl) ?_) | (show R _ _ _ (_ :: _) _ _ _ _; refine R_op (by simp (maxSteps := 2000000) [f1, f2]; with_reducible rfl) ?_) | (show R _ _ _ [] _ _ _ _; refine R_nil (by simp; with_reducible rfl) ?_) | (show W _ (.seq (.cond _ _ _) _) _ _; first | refine W_ct (by first | (simp [f1, f2]; done) | fail) ?_ | refine W_cf (by first | (simp [f1, f2]; done) | fail) ?_) | refine W_skip ?_ | refine W_bl (c := .seq _ _) ?_ | refine W_bl (c := .region _ _) ?_ | refine W_bl (c := .cond _ _ _) ?_ | refine W_bl (c := .block _ _) ?_ | refine W_rt ?_ | refine W_ex ?_ | refine W_end ?_ | refine W_tail (a := .region _ _) ?_ | refine W_tail (a := .cond _ _ _) ?_ | refine W_tail (a := .ret) ?_ | refine W_tail (a := .exit _) ?_ | refine W_tail (a := .block _ _) ?_ | refine QB_normal ?_ | refine QB_exit ?_ | refine QB_ret ?_ | refine QB_out (by decide) ?_ | refine QL_next ?_ | refine QL_exit ?_ | refine QL_ret ?_ | refine QL_out (by decide) ?_ | (show Fin _ _ .ret _; exact Fin_ret (by first | (simp [c58]; done) | (simp [c58]; with_reducible rfl))) | (show Fin _ _ .normal _; exact Fin_end (by first | (simp [c58]; done) | (simp [c58]; with_reducible rfl))))
  · rw [if_neg ha]
    repeat (first | refine W_assoc ?_ | (show W _ (.seq (.region _ _) _) _ _; refine W_reg (by simp; with_reducible rfl) ?_) | (show R _ _ _ (_ :: _) _ _ _ _; refine R_op (by simp (maxSteps := 2000000) [f1, f2, ha]; with_reducible rfl) ?_) | (show R _ _ _ [] _ _ _ _; refine R_nil (by simp; with_reducible rfl) ?_) | (show W _ (.seq (.cond _ _ _) _) _ _; first | refine W_ct (by first | (simp [f1, f2, ha]; done) | fail) ?_ | refine W_cf (by first | (simp [f1, f2, ha]; done) | fail) ?_) | refine W_skip ?_ | refine W_bl (c := .seq _ _) ?_ | refine W_bl (c := .region _ _) ?_ | refine W_bl (c := .cond _ _ _) ?_ | refine W_bl (c := .block _ _) ?_ | refine W_rt ?_ | refine W_ex ?_ | refine W_end ?_ | refine W_tail (a := .region _ _) ?_ | refine W_tail (a := .cond _ _ _) ?_ | refine W_tail (a := .ret) ?_ | refine W_tail (a := .exit _) ?_ | refine W_tail (a := .block _ _) ?_ | refine QB_normal ?_ | refine QB_exit ?_ | refine QB_ret ?_ | refine QB_out (by decide) ?_ | refine QL_next ?_ | refine QL_exit ?_ | refine QL_ret ?_ | refine QL_out (by decide) ?_ | (show Fin _ _ .ret _; exact Fin_ret (by first | (simp [c58]; done) | (simp [c58]; with_reducible rfl))) | (show Fin _ _ .normal _; exact Fin_end (by first | (simp [c58]; done) | (simp [c58]; with_reducible rfl))))

theorem V_Has1 (k : Int) : FV (F T) 90 [.int .i64 k, .int .i64 1] = some (.bool (hasJ k)) := by
  by_cases h1 : k < 1
  · rw [show hasJ k = false by unfold hasJ; simp; omega]
    refine FV_W T90 (r := ?r1) (W_fin (ex := .ret) (by simp [c90, c90_b, h1]; with_reducible rfl) (by simp) (by first | (simp [c90]; done) | (simp [c90]; with_reducible rfl))) (by simp)
  by_cases h2 : 10 < k
  · rw [show hasJ k = false by unfold hasJ; simp; omega]
    refine FV_W T90 (r := ?r2) (W_fin (ex := .ret) (by simp [c90, c90_b, h1, h2]; with_reducible rfl) (by simp) (by first | (simp [c90]; done) | (simp [c90]; with_reducible rfl))) (by simp)
  · rw [show hasJ k = true by unfold hasJ; simp; omega]
    refine FV_W T90 (r := ?r3) (W_fin (ex := .ret) (by simp [c90, c90_b, h1, h2]; with_reducible rfl) (by simp) (by first | (simp [c90]; done) | (simp [c90]; with_reducible rfl))) (by simp)

theorem V_Has2 (k : Int) : FV (F T) 90 [.int .i64 k, .int .i64 2] = some (.bool (hasT k)) := by
  by_cases h1 : k < 1
  · rw [show hasT k = false by unfold hasT; simp; omega]
    refine FV_W T90 (r := ?r4) (W_fin (ex := .ret) (by simp [c90, c90_b, h1]; with_reducible rfl) (by simp) (by first | (simp [c90]; done) | (simp [c90]; with_reducible rfl))) (by simp)
  by_cases h2 : 10 < k
  · rw [show hasT k = false by unfold hasT; simp; omega]
    refine FV_W T90 (r := ?r5) (W_fin (ex := .ret) (by simp [c90, c90_b, h1, h2]; with_reducible rfl) (by simp) (by first | (simp [c90]; done) | (simp [c90]; with_reducible rfl))) (by simp)
  by_cases h3 : k = 4
  · subst h3
    rw [show hasT 4 = true from rfl]
    refine FV_W T90 (r := ?r6) (W_fin (ex := .ret) (by simp [c90, c90_b]; with_reducible rfl) (by simp) (by first | (simp [c90]; done) | (simp [c90]; with_reducible rfl))) (by simp)
  by_cases h4 : 7 ≤ k
  · by_cases h5 : k ≤ 9
    · rw [show hasT k = true by unfold hasT; simp; omega]
      refine FV_W T90 (r := ?r7) (W_fin (ex := .ret) (by simp [c90, c90_b, h1, h2, h3, h4, h5]; with_reducible rfl) (by simp) (by first | (simp [c90]; done) | (simp [c90]; with_reducible rfl))) (by simp)
    · rw [show hasT k = false by unfold hasT; simp; omega]
      refine FV_W T90 (r := ?r8) (W_fin (ex := .ret) (by simp [c90, c90_b, h1, h2, h3, h4, h5]; with_reducible rfl) (by simp) (by first | (simp [c90]; done) | (simp [c90]; with_reducible rfl))) (by simp)
  · rw [show hasT k = false by unfold hasT; simp; omega]
    refine FV_W T90 (r := ?r9) (W_fin (ex := .ret) (by simp [c90, c90_b, h1, h2, h3, h4]; with_reducible rfl) (by simp) (by first | (simp [c90]; done) | (simp [c90]; with_reducible rfl))) (by simp)

theorem V_Has3 (k : Int) : FV (F T) 90 [.int .i64 k, .int .i64 3] = some (.bool (hasE k)) := by
  by_cases h1 : k < 1
  · rw [show hasE k = false by unfold hasE; simp; omega]
    refine FV_W T90 (r := ?r10) (W_fin (ex := .ret) (by simp [c90, c90_b, h1]; with_reducible rfl) (by simp) (by first | (simp [c90]; done) | (simp [c90]; with_reducible rfl))) (by simp)
  by_cases h2 : 10 < k
  · rw [show hasE k = false by unfold hasE; simp; omega]
    refine FV_W T90 (r := ?r11) (W_fin (ex := .ret) (by simp [c90, c90_b, h1, h2]; with_reducible rfl) (by simp) (by first | (simp [c90]; done) | (simp [c90]; with_reducible rfl))) (by simp)
  by_cases h3 : k = 1
  · subst h3
    rw [show hasE 1 = true from rfl]
    refine FV_W T90 (r := ?r12) (W_fin (ex := .ret) (by simp [c90, c90_b]; with_reducible rfl) (by simp) (by first | (simp [c90]; done) | (simp [c90]; with_reducible rfl))) (by simp)
  by_cases h4 : k = 4
  · subst h4
    rw [show hasE 4 = true from rfl]
    refine FV_W T90 (r := ?r13) (W_fin (ex := .ret) (by simp [c90, c90_b]; with_reducible rfl) (by simp) (by first | (simp [c90]; done) | (simp [c90]; with_reducible rfl))) (by simp)
  by_cases h5 : k = 10
  · subst h5
    rw [show hasE 10 = true from rfl]
    refine FV_W T90 (r := ?r14) (W_fin (ex := .ret) (by simp [c90, c90_b]; with_reducible rfl) (by simp) (by first | (simp [c90]; done) | (simp [c90]; with_reducible rfl))) (by simp)
  · rw [show hasE k = false by unfold hasE; simp; omega]
    refine FV_W T90 (r := ?r15) (W_fin (ex := .ret) (by simp [c90, c90_b, h1, h2, h3, h4, h5]; with_reducible rfl) (by simp) (by first | (simp [c90]; done) | (simp [c90]; with_reducible rfl))) (by simp)

theorem F_Field (r : List Int) (hr : ∀ a ∈ r, 0 ≤ a ∧ a ≤ 255) (hn : r.length < 100000) (e k f : Int) (h : Bool) (vh : FV (F T) 90 [.int .i64 k, .int .i64 f] = some (.bool h)) (least : Bool) (lo m : Int) (hlo : lo = if least = true then 1 else 0) :
    F T 60 [.ref 0 0 0, .int .i64 k, .int .i64 f, .int .i64 lo, .int .i64 m] [mv r e] = some (.int .i64 (rdH h least r e m).1, [mv (r.drop (rdH h least r e m).2.1) (rdH h least r e m).2.2]) := by
  have f1 := F_MNum r e m hr hn
  have hnn := rdN_nn r e m hr
  unfold rdH rdL
  generalize rdN r e m = q at *
  obtain ⟨a, n, c⟩ := q
  simp only [] at f1 hnn ⊢
  have f2 := F_MFail (r.drop n) c 3
  refine F_W T60 ?_
  simp only [c60, c60_b, Lift.start]
  cases h with
  | false =>
    simp only [Bool.false_eq_true, if_false, List.drop_zero]
    repeat (first | refine W_assoc ?_ | (show W _ (.seq (.region _ _) _) _ _; refine W_reg (by simp; with_reducible rfl) ?_) | (show R _ _ _ (_ :: _) _ _ _ _; refine R_op (by simp (maxSteps := 2000000) [vh]; with_reducible rfl) ?_) | (show R _ _ _ [] _ _ _ _; refine R_nil (by simp; with_reducible rfl) ?_) | (show W _ (.seq (.cond _ _ _) _) _ _; first | refine W_ct (by first | (simp [vh]; done) | fail) ?_ | refine W_cf (by first | (simp [vh]; done) | fail) ?_) | refine W_skip ?_ | refine W_bl (c := .seq _ _) ?_ | refine W_bl (c := .region _ _) ?_ | refine W_bl (c := .cond _ _ _) ?_ | refine W_bl (c := .block _ _) ?_ | refine W_rt ?_ | refine W_ex ?_ | refine W_end ?_ | refine W_tail (a := .region _ _) ?_ | refine W_tail (a := .cond _ _ _) ?_ | refine W_tail (a := .ret) ?_ | refine W_tail (a := .exit _) ?_ | refine W_tail (a := .block _ _) ?_ | refine QB_normal ?_ | refine QB_exit ?_ | refine QB_ret ?_ | refine QB_out (by decide) ?_ | refine QL_next ?_ | refine QL_exit ?_ | refine QL_ret ?_ | refine QL_out (by decide) ?_ | (show Fin _ _ .ret _; exact Fin_ret (by first | (simp [c60]; done) | (simp [c60]; with_reducible rfl))) | (show Fin _ _ .normal _; exact Fin_end (by first | (simp [c60]; done) | (simp [c60]; with_reducible rfl))))
  | true =>
    simp only [if_true]
    cases least with
    | true =>
      simp only [if_true] at hlo ⊢
      subst hlo
      by_cases ha : a = 0
      · rw [if_pos ha]
        subst ha
        repeat (first | refine W_assoc ?_ | (show W _ (.seq (.region _ _) _) _ _; refine W_reg (by simp; with_reducible rfl) ?_) | (show R _ _ _ (_ :: _) _ _ _ _; refine R_op (by simp (maxSteps := 2000000) [vh, f1, f2]; with_reducible rfl) ?_) | (show R _ _ _ [] _ _ _ _; refine R_nil (by simp; with_reducible rfl) ?_) | (show W _ (.seq (.cond _ _ _) _) _ _; first | refine W_ct (by first | (simp [vh, f1, f2]; done) | fail) ?_ | refine W_cf (by first | (simp [vh, f1, f2]; done) | fail) ?_) | refine W_skip ?_ | refine W_bl (c := .seq _ _) ?_ | refine W_bl (c := .region _ _) ?_ | refine W_bl (c := .cond _ _ _) ?_ | refine W_bl (c := .block _ _) ?_ | refine W_rt ?_ | refine W_ex ?_ | refine W_end ?_ | refine W_tail (a := .region _ _) ?_ | refine W_tail (a := .cond _ _ _) ?_ | refine W_tail (a := .ret) ?_ | refine W_tail (a := .exit _) ?_ | refine W_tail (a := .block _ _) ?_ | refine QB_normal ?_ | refine QB_exit ?_ | refine QB_ret ?_ | refine QB_out (by decide) ?_ | refine QL_next ?_ | refine QL_exit ?_ | refine QL_ret ?_ | refine QL_out (by decide) ?_ | (show Fin _ _ .ret _; exact Fin_ret (by first | (simp [c60]; done) | (simp [c60]; with_reducible rfl))) | (show Fin _ _ .normal _; exact Fin_end (by first | (simp [c60]; done) | (simp [c60]; with_reducible rfl))))
      · have ha' : ¬ a < 1 := by omega
        rw [if_neg ha]
        repeat (first | refine W_assoc ?_ | (show W _ (.seq (.region _ _) _) _ _; refine W_reg (by simp; with_reducible rfl) ?_) | (show R _ _ _ (_ :: _) _ _ _ _; refine R_op (by simp (maxSteps := 2000000) [vh, f1, f2, ha, ha']; with_reducible rfl) ?_) | (show R _ _ _ [] _ _ _ _; refine R_nil (by simp; with_reducible rfl) ?_) | (show W _ (.seq (.cond _ _ _) _) _ _; first | refine W_ct (by first | (simp [vh, f1, f2, ha, ha']; done) | fail) ?_ | refine W_cf (by first | (simp [vh, f1, f2, ha, ha']; done) | fail) ?_) | refine W_skip ?_ | refine W_bl (c := .seq _ _) ?_ | refine W_bl (c := .region _ _) ?_ | refine W_bl (c := .cond _ _ _) ?_ | refine W_bl (c := .block _ _) ?_ | refine W_rt ?_ | refine W_ex ?_ | refine W_end ?_ | refine W_tail (a := .region _ _) ?_ | refine W_tail (a := .cond _ _ _) ?_ | refine W_tail (a := .ret) ?_ | refine W_tail (a := .exit _) ?_ | refine W_tail (a := .block _ _) ?_ | refine QB_normal ?_ | refine QB_exit ?_ | refine QB_ret ?_ | refine QB_out (by decide) ?_ | refine QL_next ?_ | refine QL_exit ?_ | refine QL_ret ?_ | refine QL_out (by decide) ?_ | (show Fin _ _ .ret _; exact Fin_ret (by first | (simp [c60]; done) | (simp [c60]; with_reducible rfl))) | (show Fin _ _ .normal _; exact Fin_end (by first | (simp [c60]; done) | (simp [c60]; with_reducible rfl))))
    | false =>
      simp only [Bool.false_eq_true, if_false] at hlo ⊢
      subst hlo
      have ha' : ¬ a < 0 := by omega
      repeat (first | refine W_assoc ?_ | (show W _ (.seq (.region _ _) _) _ _; refine W_reg (by simp; with_reducible rfl) ?_) | (show R _ _ _ (_ :: _) _ _ _ _; refine R_op (by simp (maxSteps := 2000000) [vh, f1, f2, ha']; with_reducible rfl) ?_) | (show R _ _ _ [] _ _ _ _; refine R_nil (by simp; with_reducible rfl) ?_) | (show W _ (.seq (.cond _ _ _) _) _ _; first | refine W_ct (by first | (simp [vh, f1, f2, ha']; done) | fail) ?_ | refine W_cf (by first | (simp [vh, f1, f2, ha']; done) | fail) ?_) | refine W_skip ?_ | refine W_bl (c := .seq _ _) ?_ | refine W_bl (c := .region _ _) ?_ | refine W_bl (c := .cond _ _ _) ?_ | refine W_bl (c := .block _ _) ?_ | refine W_rt ?_ | refine W_ex ?_ | refine W_end ?_ | refine W_tail (a := .region _ _) ?_ | refine W_tail (a := .cond _ _ _) ?_ | refine W_tail (a := .ret) ?_ | refine W_tail (a := .exit _) ?_ | refine W_tail (a := .block _ _) ?_ | refine QB_normal ?_ | refine QB_exit ?_ | refine QB_ret ?_ | refine QB_out (by decide) ?_ | refine QL_next ?_ | refine QL_exit ?_ | refine QL_ret ?_ | refine QL_out (by decide) ?_ | (show Fin _ _ .ret _; exact Fin_ret (by first | (simp [c60]; done) | (simp [c60]; with_reducible rfl))) | (show Fin _ _ .normal _; exact Fin_end (by first | (simp [c60]; done) | (simp [c60]; with_reducible rfl))))

theorem F_Parse (x : List Int) (hx : ∀ a ∈ x, 0 ≤ a ∧ a ≤ 255) (hn : x.length ≤ 5000) : F T 27 [.str (bs x)] [] = some (.tup [.agg (m4 (parseM x).1), .int .i64 (parseM x).2], []) := by
  have hI0 : InR x 0 x.length := ⟨hx, by omega, by omega⟩
  have hnew := F_New _ x (.inl rfl) (by omega)
  have hbr := bytesRow_bs x hx
  have f1 := F_least hI0 0 11
  rw [List.drop_zero] at f1
  have b1 := rdL_le x 0 11 hx
  unfold parseM readM
  generalize rdL x 0 11 = a at *
  obtain ⟨k, n1, e1⟩ := a
  simp only [Nat.zero_add] at *
  have hI1 := hI0.next b1
  rw [Nat.zero_add] at hI1
  have hr1 := hI1.rg
  have hl1 := hI1.len
  have vf := V_fields k
  obtain ⟨f, x1, x2, x4, hf, g1, g2, g4, q1, q2, q4⟩ := andB (hasJ k) (hasT k) (hasE k)
  rw [hf] at vf
  have v1 := V_Has1 k
  have v2 := V_Has2 k
  have v3 := V_Has3 k
  have cells : ∀ j t e : Int, m4 (k, j, t, e) = [.int .i64 k, .int .i64 j, .int .i64 t, .int .i64 e] := fun _ _ _ => rfl
  generalize hasJ k = hj at *
  generalize hasT k = ht at *
  generalize hasE k = he at *
  refine F_W T27 ?_
  simp only [c27, c27_b, Lift.start]
  cases hj <;> cases ht <;> cases he
  · simp only [rdH, if_true, Bool.false_eq_true, if_false, List.drop_zero]
    have fe := F_REnd x (n1) (x.length - n1) e1
    rw [hI1.len]
    by_cases hz : endE e1 (x.length - n1) = 0
    · rw [hz] at fe ⊢
      rw [if_neg (by simp)]
      repeat (first | refine W_assoc ?_ | (show W _ (.seq (.region _ _) _) _ _; refine W_reg (by simp; with_reducible rfl) ?_) | (show R _ _ _ (_ :: _) _ _ _ _; refine R_op (by simp (maxSteps := 2000000) [hnew, hbr, f1, vf, g1, g2, g4, q1, q2, q4, fe]; with_reducible rfl) ?_) | (show R _ _ _ [] _ _ _ _; refine R_nil (by simp; with_reducible rfl) ?_) | (show W _ (.seq (.cond _ _ _) _) _ _; first | refine W_ct (by first | (simp [hnew, hbr, f1, vf, g1, g2, g4, q1, q2, q4, fe]; done) | fail) ?_ | refine W_cf (by first | (simp [hnew, hbr, f1, vf, g1, g2, g4, q1, q2, q4, fe]; done) | fail) ?_) | refine W_skip ?_ | refine W_bl (c := .seq _ _) ?_ | refine W_bl (c := .region _ _) ?_ | refine W_bl (c := .cond _ _ _) ?_ | refine W_bl (c := .block _ _) ?_ | refine W_rt ?_ | refine W_ex ?_ | refine W_end ?_ | refine W_tail (a := .region _ _) ?_ | refine W_tail (a := .cond _ _ _) ?_ | refine W_tail (a := .ret) ?_ | refine W_tail (a := .exit _) ?_ | refine W_tail (a := .block _ _) ?_ | refine QB_normal ?_ | refine QB_exit ?_ | refine QB_ret ?_ | refine QB_out (by decide) ?_ | refine QL_next ?_ | refine QL_exit ?_ | refine QL_ret ?_ | refine QL_out (by decide) ?_ | (show Fin _ _ .ret _; exact Fin_ret (by first | (simp [c27]; done) | (simp [c27]; with_reducible rfl))) | (show Fin _ _ .normal _; exact Fin_end (by first | (simp [c27]; done) | (simp [c27]; with_reducible rfl))))
    · rw [if_pos hz]
      repeat (first | refine W_assoc ?_ | (show W _ (.seq (.region _ _) _) _ _; refine W_reg (by simp; with_reducible rfl) ?_) | (show R _ _ _ (_ :: _) _ _ _ _; refine R_op (by simp (maxSteps := 2000000) [hnew, hbr, f1, vf, g1, g2, g4, q1, q2, q4, fe, hz]; with_reducible rfl) ?_) | (show R _ _ _ [] _ _ _ _; refine R_nil (by simp; with_reducible rfl) ?_) | (show W _ (.seq (.cond _ _ _) _) _ _; first | refine W_ct (by first | (simp [hnew, hbr, f1, vf, g1, g2, g4, q1, q2, q4, fe, hz]; done) | fail) ?_ | refine W_cf (by first | (simp [hnew, hbr, f1, vf, g1, g2, g4, q1, q2, q4, fe, hz]; done) | fail) ?_) | refine W_skip ?_ | refine W_bl (c := .seq _ _) ?_ | refine W_bl (c := .region _ _) ?_ | refine W_bl (c := .cond _ _ _) ?_ | refine W_bl (c := .block _ _) ?_ | refine W_rt ?_ | refine W_ex ?_ | refine W_end ?_ | refine W_tail (a := .region _ _) ?_ | refine W_tail (a := .cond _ _ _) ?_ | refine W_tail (a := .ret) ?_ | refine W_tail (a := .exit _) ?_ | refine W_tail (a := .block _ _) ?_ | refine QB_normal ?_ | refine QB_exit ?_ | refine QB_ret ?_ | refine QB_out (by decide) ?_ | refine QL_next ?_ | refine QL_exit ?_ | refine QL_ret ?_ | refine QL_out (by decide) ?_ | (show Fin _ _ .ret _; exact Fin_ret (by first | (simp [c27]; done) | (simp [c27]; with_reducible rfl))) | (show Fin _ _ .normal _; exact Fin_end (by first | (simp [c27]; done) | (simp [c27]; with_reducible rfl))))
  · simp only [rdH, if_true, Bool.false_eq_true, if_false, List.drop_zero]
    have f4 := F_least hI1 e1 9
    have b4 := rdL_le _ e1 9 hI1.rg
    rw [hI1.len] at b4
    have hI4 := hI1.next b4
    have hd4 : x.drop (n1 + (rdL (x.drop (n1)) e1 9).2.1) = (x.drop (n1)).drop (rdL (x.drop (n1)) e1 9).2.1 := by rw [List.drop_drop]
    rw [← hd4]
    generalize rdL (x.drop (n1)) e1 9 = a4 at *
    obtain ⟨w4, n4, e4⟩ := a4
    simp only [] at *
    clear hd4
    have fe := F_REnd x (n1 + n4) ((x.length - n1) - n4) e4
    rw [hI4.len]
    by_cases hz : endE e4 ((x.length - n1) - n4) = 0
    · rw [hz] at fe ⊢
      rw [if_neg (by simp)]
      repeat (first | refine W_assoc ?_ | (show W _ (.seq (.region _ _) _) _ _; refine W_reg (by simp; with_reducible rfl) ?_) | (show R _ _ _ (_ :: _) _ _ _ _; refine R_op (by simp (maxSteps := 2000000) [hnew, hbr, f1, f4, vf, g1, g2, g4, q1, q2, q4, fe]; with_reducible rfl) ?_) | (show R _ _ _ [] _ _ _ _; refine R_nil (by simp; with_reducible rfl) ?_) | (show W _ (.seq (.cond _ _ _) _) _ _; first | refine W_ct (by first | (simp [hnew, hbr, f1, f4, vf, g1, g2, g4, q1, q2, q4, fe]; done) | fail) ?_ | refine W_cf (by first | (simp [hnew, hbr, f1, f4, vf, g1, g2, g4, q1, q2, q4, fe]; done) | fail) ?_) | refine W_skip ?_ | refine W_bl (c := .seq _ _) ?_ | refine W_bl (c := .region _ _) ?_ | refine W_bl (c := .cond _ _ _) ?_ | refine W_bl (c := .block _ _) ?_ | refine W_rt ?_ | refine W_ex ?_ | refine W_end ?_ | refine W_tail (a := .region _ _) ?_ | refine W_tail (a := .cond _ _ _) ?_ | refine W_tail (a := .ret) ?_ | refine W_tail (a := .exit _) ?_ | refine W_tail (a := .block _ _) ?_ | refine QB_normal ?_ | refine QB_exit ?_ | refine QB_ret ?_ | refine QB_out (by decide) ?_ | refine QL_next ?_ | refine QL_exit ?_ | refine QL_ret ?_ | refine QL_out (by decide) ?_ | (show Fin _ _ .ret _; exact Fin_ret (by first | (simp [c27]; done) | (simp [c27]; with_reducible rfl))) | (show Fin _ _ .normal _; exact Fin_end (by first | (simp [c27]; done) | (simp [c27]; with_reducible rfl))))
    · rw [if_pos hz]
      repeat (first | refine W_assoc ?_ | (show W _ (.seq (.region _ _) _) _ _; refine W_reg (by simp; with_reducible rfl) ?_) | (show R _ _ _ (_ :: _) _ _ _ _; refine R_op (by simp (maxSteps := 2000000) [hnew, hbr, f1, f4, vf, g1, g2, g4, q1, q2, q4, fe, hz]; with_reducible rfl) ?_) | (show R _ _ _ [] _ _ _ _; refine R_nil (by simp; with_reducible rfl) ?_) | (show W _ (.seq (.cond _ _ _) _) _ _; first | refine W_ct (by first | (simp [hnew, hbr, f1, f4, vf, g1, g2, g4, q1, q2, q4, fe, hz]; done) | fail) ?_ | refine W_cf (by first | (simp [hnew, hbr, f1, f4, vf, g1, g2, g4, q1, q2, q4, fe, hz]; done) | fail) ?_) | refine W_skip ?_ | refine W_bl (c := .seq _ _) ?_ | refine W_bl (c := .region _ _) ?_ | refine W_bl (c := .cond _ _ _) ?_ | refine W_bl (c := .block _ _) ?_ | refine W_rt ?_ | refine W_ex ?_ | refine W_end ?_ | refine W_tail (a := .region _ _) ?_ | refine W_tail (a := .cond _ _ _) ?_ | refine W_tail (a := .ret) ?_ | refine W_tail (a := .exit _) ?_ | refine W_tail (a := .block _ _) ?_ | refine QB_normal ?_ | refine QB_exit ?_ | refine QB_ret ?_ | refine QB_out (by decide) ?_ | refine QL_next ?_ | refine QL_exit ?_ | refine QL_ret ?_ | refine QL_out (by decide) ?_ | (show Fin _ _ .ret _; exact Fin_ret (by first | (simp [c27]; done) | (simp [c27]; with_reducible rfl))) | (show Fin _ _ .normal _; exact Fin_end (by first | (simp [c27]; done) | (simp [c27]; with_reducible rfl))))
  · simp only [rdH, if_true, Bool.false_eq_true, if_false, List.drop_zero]
    have f3 := F_RNum hI1 e1 15
    have b3 := rdN_le _ e1 15 hI1.rg
    rw [hI1.len] at b3
    have hI3 := hI1.next b3
    have hd3 : x.drop (n1 + (rdN (x.drop (n1)) e1 15).2.1) = (x.drop (n1)).drop (rdN (x.drop (n1)) e1 15).2.1 := by rw [List.drop_drop]
    rw [← hd3]
    generalize rdN (x.drop (n1)) e1 15 = a3 at *
    obtain ⟨w3, n3, e3⟩ := a3
    simp only [] at *
    clear hd3
    have fe := F_REnd x (n1 + n3) ((x.length - n1) - n3) e3
    rw [hI3.len]
    by_cases hz : endE e3 ((x.length - n1) - n3) = 0
    · rw [hz] at fe ⊢
      rw [if_neg (by simp)]
      repeat (first | refine W_assoc ?_ | (show W _ (.seq (.region _ _) _) _ _; refine W_reg (by simp; with_reducible rfl) ?_) | (show R _ _ _ (_ :: _) _ _ _ _; refine R_op (by simp (maxSteps := 2000000) [hnew, hbr, f1, f3, vf, g1, g2, g4, q1, q2, q4, fe]; with_reducible rfl) ?_) | (show R _ _ _ [] _ _ _ _; refine R_nil (by simp; with_reducible rfl) ?_) | (show W _ (.seq (.cond _ _ _) _) _ _; first | refine W_ct (by first | (simp [hnew, hbr, f1, f3, vf, g1, g2, g4, q1, q2, q4, fe]; done) | fail) ?_ | refine W_cf (by first | (simp [hnew, hbr, f1, f3, vf, g1, g2, g4, q1, q2, q4, fe]; done) | fail) ?_) | refine W_skip ?_ | refine W_bl (c := .seq _ _) ?_ | refine W_bl (c := .region _ _) ?_ | refine W_bl (c := .cond _ _ _) ?_ | refine W_bl (c := .block _ _) ?_ | refine W_rt ?_ | refine W_ex ?_ | refine W_end ?_ | refine W_tail (a := .region _ _) ?_ | refine W_tail (a := .cond _ _ _) ?_ | refine W_tail (a := .ret) ?_ | refine W_tail (a := .exit _) ?_ | refine W_tail (a := .block _ _) ?_ | refine QB_normal ?_ | refine QB_exit ?_ | refine QB_ret ?_ | refine QB_out (by decide) ?_ | refine QL_next ?_ | refine QL_exit ?_ | refine QL_ret ?_ | refine QL_out (by decide) ?_ | (show Fin _ _ .ret _; exact Fin_ret (by first | (simp [c27]; done) | (simp [c27]; with_reducible rfl))) | (show Fin _ _ .normal _; exact Fin_end (by first | (simp [c27]; done) | (simp [c27]; with_reducible rfl))))
    · rw [if_pos hz]
      repeat (first | refine W_assoc ?_ | (show W _ (.seq (.region _ _) _) _ _; refine W_reg (by simp; with_reducible rfl) ?_) | (show R _ _ _ (_ :: _) _ _ _ _; refine R_op (by simp (maxSteps := 2000000) [hnew, hbr, f1, f3, vf, g1, g2, g4, q1, q2, q4, fe, hz]; with_reducible rfl) ?_) | (show R _ _ _ [] _ _ _ _; refine R_nil (by simp; with_reducible rfl) ?_) | (show W _ (.seq (.cond _ _ _) _) _ _; first | refine W_ct (by first | (simp [hnew, hbr, f1, f3, vf, g1, g2, g4, q1, q2, q4, fe, hz]; done) | fail) ?_ | refine W_cf (by first | (simp [hnew, hbr, f1, f3, vf, g1, g2, g4, q1, q2, q4, fe, hz]; done) | fail) ?_) | refine W_skip ?_ | refine W_bl (c := .seq _ _) ?_ | refine W_bl (c := .region _ _) ?_ | refine W_bl (c := .cond _ _ _) ?_ | refine W_bl (c := .block _ _) ?_ | refine W_rt ?_ | refine W_ex ?_ | refine W_end ?_ | refine W_tail (a := .region _ _) ?_ | refine W_tail (a := .cond _ _ _) ?_ | refine W_tail (a := .ret) ?_ | refine W_tail (a := .exit _) ?_ | refine W_tail (a := .block _ _) ?_ | refine QB_normal ?_ | refine QB_exit ?_ | refine QB_ret ?_ | refine QB_out (by decide) ?_ | refine QL_next ?_ | refine QL_exit ?_ | refine QL_ret ?_ | refine QL_out (by decide) ?_ | (show Fin _ _ .ret _; exact Fin_ret (by first | (simp [c27]; done) | (simp [c27]; with_reducible rfl))) | (show Fin _ _ .normal _; exact Fin_end (by first | (simp [c27]; done) | (simp [c27]; with_reducible rfl))))
  · simp only [rdH, if_true, Bool.false_eq_true, if_false, List.drop_zero]
    have f3 := F_RNum hI1 e1 15
    have b3 := rdN_le _ e1 15 hI1.rg
    rw [hI1.len] at b3
    have hI3 := hI1.next b3
    have hd3 : x.drop (n1 + (rdN (x.drop (n1)) e1 15).2.1) = (x.drop (n1)).drop (rdN (x.drop (n1)) e1 15).2.1 := by rw [List.drop_drop]
    rw [← hd3]
    generalize rdN (x.drop (n1)) e1 15 = a3 at *
    obtain ⟨w3, n3, e3⟩ := a3
    simp only [] at *
    clear hd3
    have f4 := F_least hI3 e3 9
    have b4 := rdL_le _ e3 9 hI3.rg
    rw [hI3.len] at b4
    have hI4 := hI3.next b4
    have hd4 : x.drop (n1 + n3 + (rdL (x.drop (n1 + n3)) e3 9).2.1) = (x.drop (n1 + n3)).drop (rdL (x.drop (n1 + n3)) e3 9).2.1 := by rw [List.drop_drop]
    rw [← hd4]
    generalize rdL (x.drop (n1 + n3)) e3 9 = a4 at *
    obtain ⟨w4, n4, e4⟩ := a4
    simp only [] at *
    clear hd4
    have fe := F_REnd x (n1 + n3 + n4) (((x.length - n1) - n3) - n4) e4
    rw [hI4.len]
    by_cases hz : endE e4 (((x.length - n1) - n3) - n4) = 0
    · rw [hz] at fe ⊢
      rw [if_neg (by simp)]
      repeat (first | refine W_assoc ?_ | (show W _ (.seq (.region _ _) _) _ _; refine W_reg (by simp; with_reducible rfl) ?_) | (show R _ _ _ (_ :: _) _ _ _ _; refine R_op (by simp (maxSteps := 2000000) [hnew, hbr, f1, f3, f4, vf, g1, g2, g4, q1, q2, q4, fe]; with_reducible rfl) ?_) | (show R _ _ _ [] _ _ _ _; refine R_nil (by simp; with_reducible rfl) ?_) | (show W _ (.seq (.cond _ _ _) _) _ _; first | refine W_ct (by first | (simp [hnew, hbr, f1, f3, f4, vf, g1, g2, g4, q1, q2, q4, fe]; done) | fail) ?_ | refine W_cf (by first | (simp [hnew, hbr, f1, f3, f4, vf, g1, g2, g4, q1, q2, q4, fe]; done) | fail) ?_) | refine W_skip ?_ | refine W_bl (c := .seq _ _) ?_ | refine W_bl (c := .region _ _) ?_ | refine W_bl (c := .cond _ _ _) ?_ | refine W_bl (c := .block _ _) ?_ | refine W_rt ?_ | refine W_ex ?_ | refine W_end ?_ | refine W_tail (a := .region _ _) ?_ | refine W_tail (a := .cond _ _ _) ?_ | refine W_tail (a := .ret) ?_ | refine W_tail (a := .exit _) ?_ | refine W_tail (a := .block _ _) ?_ | refine QB_normal ?_ | refine QB_exit ?_ | refine QB_ret ?_ | refine QB_out (by decide) ?_ | refine QL_next ?_ | refine QL_exit ?_ | refine QL_ret ?_ | refine QL_out (by decide) ?_ | (show Fin _ _ .ret _; exact Fin_ret (by first | (simp [c27]; done) | (simp [c27]; with_reducible rfl))) | (show Fin _ _ .normal _; exact Fin_end (by first | (simp [c27]; done) | (simp [c27]; with_reducible rfl))))
    · rw [if_pos hz]
      repeat (first | refine W_assoc ?_ | (show W _ (.seq (.region _ _) _) _ _; refine W_reg (by simp; with_reducible rfl) ?_) | (show R _ _ _ (_ :: _) _ _ _ _; refine R_op (by simp (maxSteps := 2000000) [hnew, hbr, f1, f3, f4, vf, g1, g2, g4, q1, q2, q4, fe, hz]; with_reducible rfl) ?_) | (show R _ _ _ [] _ _ _ _; refine R_nil (by simp; with_reducible rfl) ?_) | (show W _ (.seq (.cond _ _ _) _) _ _; first | refine W_ct (by first | (simp [hnew, hbr, f1, f3, f4, vf, g1, g2, g4, q1, q2, q4, fe, hz]; done) | fail) ?_ | refine W_cf (by first | (simp [hnew, hbr, f1, f3, f4, vf, g1, g2, g4, q1, q2, q4, fe, hz]; done) | fail) ?_) | refine W_skip ?_ | refine W_bl (c := .seq _ _) ?_ | refine W_bl (c := .region _ _) ?_ | refine W_bl (c := .cond _ _ _) ?_ | refine W_bl (c := .block _ _) ?_ | refine W_rt ?_ | refine W_ex ?_ | refine W_end ?_ | refine W_tail (a := .region _ _) ?_ | refine W_tail (a := .cond _ _ _) ?_ | refine W_tail (a := .ret) ?_ | refine W_tail (a := .exit _) ?_ | refine W_tail (a := .block _ _) ?_ | refine QB_normal ?_ | refine QB_exit ?_ | refine QB_ret ?_ | refine QB_out (by decide) ?_ | refine QL_next ?_ | refine QL_exit ?_ | refine QL_ret ?_ | refine QL_out (by decide) ?_ | (show Fin _ _ .ret _; exact Fin_ret (by first | (simp [c27]; done) | (simp [c27]; with_reducible rfl))) | (show Fin _ _ .normal _; exact Fin_end (by first | (simp [c27]; done) | (simp [c27]; with_reducible rfl))))
  · simp only [rdH, if_true, Bool.false_eq_true, if_false, List.drop_zero]
    have f2 := F_least hI1 e1 72057594037927935
    have b2 := rdL_le _ e1 72057594037927935 hI1.rg
    rw [hI1.len] at b2
    have hI2 := hI1.next b2
    have hd2 : x.drop (n1 + (rdL (x.drop (n1)) e1 72057594037927935).2.1) = (x.drop (n1)).drop (rdL (x.drop (n1)) e1 72057594037927935).2.1 := by rw [List.drop_drop]
    rw [← hd2]
    generalize rdL (x.drop (n1)) e1 72057594037927935 = a2 at *
    obtain ⟨w2, n2, e2⟩ := a2
    simp only [] at *
    clear hd2
    have fe := F_REnd x (n1 + n2) ((x.length - n1) - n2) e2
    rw [hI2.len]
    by_cases hz : endE e2 ((x.length - n1) - n2) = 0
    · rw [hz] at fe ⊢
      rw [if_neg (by simp)]
      repeat (first | refine W_assoc ?_ | (show W _ (.seq (.region _ _) _) _ _; refine W_reg (by simp; with_reducible rfl) ?_) | (show R _ _ _ (_ :: _) _ _ _ _; refine R_op (by simp (maxSteps := 2000000) [hnew, hbr, f1, f2, vf, g1, g2, g4, q1, q2, q4, fe]; with_reducible rfl) ?_) | (show R _ _ _ [] _ _ _ _; refine R_nil (by simp; with_reducible rfl) ?_) | (show W _ (.seq (.cond _ _ _) _) _ _; first | refine W_ct (by first | (simp [hnew, hbr, f1, f2, vf, g1, g2, g4, q1, q2, q4, fe]; done) | fail) ?_ | refine W_cf (by first | (simp [hnew, hbr, f1, f2, vf, g1, g2, g4, q1, q2, q4, fe]; done) | fail) ?_) | refine W_skip ?_ | refine W_bl (c := .seq _ _) ?_ | refine W_bl (c := .region _ _) ?_ | refine W_bl (c := .cond _ _ _) ?_ | refine W_bl (c := .block _ _) ?_ | refine W_rt ?_ | refine W_ex ?_ | refine W_end ?_ | refine W_tail (a := .region _ _) ?_ | refine W_tail (a := .cond _ _ _) ?_ | refine W_tail (a := .ret) ?_ | refine W_tail (a := .exit _) ?_ | refine W_tail (a := .block _ _) ?_ | refine QB_normal ?_ | refine QB_exit ?_ | refine QB_ret ?_ | refine QB_out (by decide) ?_ | refine QL_next ?_ | refine QL_exit ?_ | refine QL_ret ?_ | refine QL_out (by decide) ?_ | (show Fin _ _ .ret _; exact Fin_ret (by first | (simp [c27]; done) | (simp [c27]; with_reducible rfl))) | (show Fin _ _ .normal _; exact Fin_end (by first | (simp [c27]; done) | (simp [c27]; with_reducible rfl))))
    · rw [if_pos hz]
      repeat (first | refine W_assoc ?_ | (show W _ (.seq (.region _ _) _) _ _; refine W_reg (by simp; with_reducible rfl) ?_) | (show R _ _ _ (_ :: _) _ _ _ _; refine R_op (by simp (maxSteps := 2000000) [hnew, hbr, f1, f2, vf, g1, g2, g4, q1, q2, q4, fe, hz]; with_reducible rfl) ?_) | (show R _ _ _ [] _ _ _ _; refine R_nil (by simp; with_reducible rfl) ?_) | (show W _ (.seq (.cond _ _ _) _) _ _; first | refine W_ct (by first | (simp [hnew, hbr, f1, f2, vf, g1, g2, g4, q1, q2, q4, fe, hz]; done) | fail) ?_ | refine W_cf (by first | (simp [hnew, hbr, f1, f2, vf, g1, g2, g4, q1, q2, q4, fe, hz]; done) | fail) ?_) | refine W_skip ?_ | refine W_bl (c := .seq _ _) ?_ | refine W_bl (c := .region _ _) ?_ | refine W_bl (c := .cond _ _ _) ?_ | refine W_bl (c := .block _ _) ?_ | refine W_rt ?_ | refine W_ex ?_ | refine W_end ?_ | refine W_tail (a := .region _ _) ?_ | refine W_tail (a := .cond _ _ _) ?_ | refine W_tail (a := .ret) ?_ | refine W_tail (a := .exit _) ?_ | refine W_tail (a := .block _ _) ?_ | refine QB_normal ?_ | refine QB_exit ?_ | refine QB_ret ?_ | refine QB_out (by decide) ?_ | refine QL_next ?_ | refine QL_exit ?_ | refine QL_ret ?_ | refine QL_out (by decide) ?_ | (show Fin _ _ .ret _; exact Fin_ret (by first | (simp [c27]; done) | (simp [c27]; with_reducible rfl))) | (show Fin _ _ .normal _; exact Fin_end (by first | (simp [c27]; done) | (simp [c27]; with_reducible rfl))))
  · simp only [rdH, if_true, Bool.false_eq_true, if_false, List.drop_zero]
    have f2 := F_least hI1 e1 72057594037927935
    have b2 := rdL_le _ e1 72057594037927935 hI1.rg
    rw [hI1.len] at b2
    have hI2 := hI1.next b2
    have hd2 : x.drop (n1 + (rdL (x.drop (n1)) e1 72057594037927935).2.1) = (x.drop (n1)).drop (rdL (x.drop (n1)) e1 72057594037927935).2.1 := by rw [List.drop_drop]
    rw [← hd2]
    generalize rdL (x.drop (n1)) e1 72057594037927935 = a2 at *
    obtain ⟨w2, n2, e2⟩ := a2
    simp only [] at *
    clear hd2
    have f4 := F_least hI2 e2 9
    have b4 := rdL_le _ e2 9 hI2.rg
    rw [hI2.len] at b4
    have hI4 := hI2.next b4
    have hd4 : x.drop (n1 + n2 + (rdL (x.drop (n1 + n2)) e2 9).2.1) = (x.drop (n1 + n2)).drop (rdL (x.drop (n1 + n2)) e2 9).2.1 := by rw [List.drop_drop]
    rw [← hd4]
    generalize rdL (x.drop (n1 + n2)) e2 9 = a4 at *
    obtain ⟨w4, n4, e4⟩ := a4
    simp only [] at *
    clear hd4
    have fe := F_REnd x (n1 + n2 + n4) (((x.length - n1) - n2) - n4) e4
    rw [hI4.len]
    by_cases hz : endE e4 (((x.length - n1) - n2) - n4) = 0
    · rw [hz] at fe ⊢
      rw [if_neg (by simp)]
      repeat (first | refine W_assoc ?_ | (show W _ (.seq (.region _ _) _) _ _; refine W_reg (by simp; with_reducible rfl) ?_) | (show R _ _ _ (_ :: _) _ _ _ _; refine R_op (by simp (maxSteps := 2000000) [hnew, hbr, f1, f2, f4, vf, g1, g2, g4, q1, q2, q4, fe]; with_reducible rfl) ?_) | (show R _ _ _ [] _ _ _ _; refine R_nil (by simp; with_reducible rfl) ?_) | (show W _ (.seq (.cond _ _ _) _) _ _; first | refine W_ct (by first | (simp [hnew, hbr, f1, f2, f4, vf, g1, g2, g4, q1, q2, q4, fe]; done) | fail) ?_ | refine W_cf (by first | (simp [hnew, hbr, f1, f2, f4, vf, g1, g2, g4, q1, q2, q4, fe]; done) | fail) ?_) | refine W_skip ?_ | refine W_bl (c := .seq _ _) ?_ | refine W_bl (c := .region _ _) ?_ | refine W_bl (c := .cond _ _ _) ?_ | refine W_bl (c := .block _ _) ?_ | refine W_rt ?_ | refine W_ex ?_ | refine W_end ?_ | refine W_tail (a := .region _ _) ?_ | refine W_tail (a := .cond _ _ _) ?_ | refine W_tail (a := .ret) ?_ | refine W_tail (a := .exit _) ?_ | refine W_tail (a := .block _ _) ?_ | refine QB_normal ?_ | refine QB_exit ?_ | refine QB_ret ?_ | refine QB_out (by decide) ?_ | refine QL_next ?_ | refine QL_exit ?_ | refine QL_ret ?_ | refine QL_out (by decide) ?_ | (show Fin _ _ .ret _; exact Fin_ret (by first | (simp [c27]; done) | (simp [c27]; with_reducible rfl))) | (show Fin _ _ .normal _; exact Fin_end (by first | (simp [c27]; done) | (simp [c27]; with_reducible rfl))))
    · rw [if_pos hz]
      repeat (first | refine W_assoc ?_ | (show W _ (.seq (.region _ _) _) _ _; refine W_reg (by simp; with_reducible rfl) ?_) | (show R _ _ _ (_ :: _) _ _ _ _; refine R_op (by simp (maxSteps := 2000000) [hnew, hbr, f1, f2, f4, vf, g1, g2, g4, q1, q2, q4, fe, hz]; with_reducible rfl) ?_) | (show R _ _ _ [] _ _ _ _; refine R_nil (by simp; with_reducible rfl) ?_) | (show W _ (.seq (.cond _ _ _) _) _ _; first | refine W_ct (by first | (simp [hnew, hbr, f1, f2, f4, vf, g1, g2, g4, q1, q2, q4, fe, hz]; done) | fail) ?_ | refine W_cf (by first | (simp [hnew, hbr, f1, f2, f4, vf, g1, g2, g4, q1, q2, q4, fe, hz]; done) | fail) ?_) | refine W_skip ?_ | refine W_bl (c := .seq _ _) ?_ | refine W_bl (c := .region _ _) ?_ | refine W_bl (c := .cond _ _ _) ?_ | refine W_bl (c := .block _ _) ?_ | refine W_rt ?_ | refine W_ex ?_ | refine W_end ?_ | refine W_tail (a := .region _ _) ?_ | refine W_tail (a := .cond _ _ _) ?_ | refine W_tail (a := .ret) ?_ | refine W_tail (a := .exit _) ?_ | refine W_tail (a := .block _ _) ?_ | refine QB_normal ?_ | refine QB_exit ?_ | refine QB_ret ?_ | refine QB_out (by decide) ?_ | refine QL_next ?_ | refine QL_exit ?_ | refine QL_ret ?_ | refine QL_out (by decide) ?_ | (show Fin _ _ .ret _; exact Fin_ret (by first | (simp [c27]; done) | (simp [c27]; with_reducible rfl))) | (show Fin _ _ .normal _; exact Fin_end (by first | (simp [c27]; done) | (simp [c27]; with_reducible rfl))))
  · simp only [rdH, if_true, Bool.false_eq_true, if_false, List.drop_zero]
    have f2 := F_least hI1 e1 72057594037927935
    have b2 := rdL_le _ e1 72057594037927935 hI1.rg
    rw [hI1.len] at b2
    have hI2 := hI1.next b2
    have hd2 : x.drop (n1 + (rdL (x.drop (n1)) e1 72057594037927935).2.1) = (x.drop (n1)).drop (rdL (x.drop (n1)) e1 72057594037927935).2.1 := by rw [List.drop_drop]
    rw [← hd2]
    generalize rdL (x.drop (n1)) e1 72057594037927935 = a2 at *
    obtain ⟨w2, n2, e2⟩ := a2
    simp only [] at *
    clear hd2
    have f3 := F_RNum hI2 e2 15
    have b3 := rdN_le _ e2 15 hI2.rg
    rw [hI2.len] at b3
    have hI3 := hI2.next b3
    have hd3 : x.drop (n1 + n2 + (rdN (x.drop (n1 + n2)) e2 15).2.1) = (x.drop (n1 + n2)).drop (rdN (x.drop (n1 + n2)) e2 15).2.1 := by rw [List.drop_drop]
    rw [← hd3]
    generalize rdN (x.drop (n1 + n2)) e2 15 = a3 at *
    obtain ⟨w3, n3, e3⟩ := a3
    simp only [] at *
    clear hd3
    have fe := F_REnd x (n1 + n2 + n3) (((x.length - n1) - n2) - n3) e3
    rw [hI3.len]
    by_cases hz : endE e3 (((x.length - n1) - n2) - n3) = 0
    · rw [hz] at fe ⊢
      rw [if_neg (by simp)]
      repeat (first | refine W_assoc ?_ | (show W _ (.seq (.region _ _) _) _ _; refine W_reg (by simp; with_reducible rfl) ?_) | (show R _ _ _ (_ :: _) _ _ _ _; refine R_op (by simp (maxSteps := 2000000) [hnew, hbr, f1, f2, f3, vf, g1, g2, g4, q1, q2, q4, fe]; with_reducible rfl) ?_) | (show R _ _ _ [] _ _ _ _; refine R_nil (by simp; with_reducible rfl) ?_) | (show W _ (.seq (.cond _ _ _) _) _ _; first | refine W_ct (by first | (simp [hnew, hbr, f1, f2, f3, vf, g1, g2, g4, q1, q2, q4, fe]; done) | fail) ?_ | refine W_cf (by first | (simp [hnew, hbr, f1, f2, f3, vf, g1, g2, g4, q1, q2, q4, fe]; done) | fail) ?_) | refine W_skip ?_ | refine W_bl (c := .seq _ _) ?_ | refine W_bl (c := .region _ _) ?_ | refine W_bl (c := .cond _ _ _) ?_ | refine W_bl (c := .block _ _) ?_ | refine W_rt ?_ | refine W_ex ?_ | refine W_end ?_ | refine W_tail (a := .region _ _) ?_ | refine W_tail (a := .cond _ _ _) ?_ | refine W_tail (a := .ret) ?_ | refine W_tail (a := .exit _) ?_ | refine W_tail (a := .block _ _) ?_ | refine QB_normal ?_ | refine QB_exit ?_ | refine QB_ret ?_ | refine QB_out (by decide) ?_ | refine QL_next ?_ | refine QL_exit ?_ | refine QL_ret ?_ | refine QL_out (by decide) ?_ | (show Fin _ _ .ret _; exact Fin_ret (by first | (simp [c27]; done) | (simp [c27]; with_reducible rfl))) | (show Fin _ _ .normal _; exact Fin_end (by first | (simp [c27]; done) | (simp [c27]; with_reducible rfl))))
    · rw [if_pos hz]
      repeat (first | refine W_assoc ?_ | (show W _ (.seq (.region _ _) _) _ _; refine W_reg (by simp; with_reducible rfl) ?_) | (show R _ _ _ (_ :: _) _ _ _ _; refine R_op (by simp (maxSteps := 2000000) [hnew, hbr, f1, f2, f3, vf, g1, g2, g4, q1, q2, q4, fe, hz]; with_reducible rfl) ?_) | (show R _ _ _ [] _ _ _ _; refine R_nil (by simp; with_reducible rfl) ?_) | (show W _ (.seq (.cond _ _ _) _) _ _; first | refine W_ct (by first | (simp [hnew, hbr, f1, f2, f3, vf, g1, g2, g4, q1, q2, q4, fe, hz]; done) | fail) ?_ | refine W_cf (by first | (simp [hnew, hbr, f1, f2, f3, vf, g1, g2, g4, q1, q2, q4, fe, hz]; done) | fail) ?_) | refine W_skip ?_ | refine W_bl (c := .seq _ _) ?_ | refine W_bl (c := .region _ _) ?_ | refine W_bl (c := .cond _ _ _) ?_ | refine W_bl (c := .block _ _) ?_ | refine W_rt ?_ | refine W_ex ?_ | refine W_end ?_ | refine W_tail (a := .region _ _) ?_ | refine W_tail (a := .cond _ _ _) ?_ | refine W_tail (a := .ret) ?_ | refine W_tail (a := .exit _) ?_ | refine W_tail (a := .block _ _) ?_ | refine QB_normal ?_ | refine QB_exit ?_ | refine QB_ret ?_ | refine QB_out (by decide) ?_ | refine QL_next ?_ | refine QL_exit ?_ | refine QL_ret ?_ | refine QL_out (by decide) ?_ | (show Fin _ _ .ret _; exact Fin_ret (by first | (simp [c27]; done) | (simp [c27]; with_reducible rfl))) | (show Fin _ _ .normal _; exact Fin_end (by first | (simp [c27]; done) | (simp [c27]; with_reducible rfl))))
  · simp only [rdH, if_true, Bool.false_eq_true, if_false, List.drop_zero]
    have f2 := F_least hI1 e1 72057594037927935
    have b2 := rdL_le _ e1 72057594037927935 hI1.rg
    rw [hI1.len] at b2
    have hI2 := hI1.next b2
    have hd2 : x.drop (n1 + (rdL (x.drop (n1)) e1 72057594037927935).2.1) = (x.drop (n1)).drop (rdL (x.drop (n1)) e1 72057594037927935).2.1 := by rw [List.drop_drop]
    rw [← hd2]
    generalize rdL (x.drop (n1)) e1 72057594037927935 = a2 at *
    obtain ⟨w2, n2, e2⟩ := a2
    simp only [] at *
    clear hd2
    have f3 := F_RNum hI2 e2 15
    have b3 := rdN_le _ e2 15 hI2.rg
    rw [hI2.len] at b3
    have hI3 := hI2.next b3
    have hd3 : x.drop (n1 + n2 + (rdN (x.drop (n1 + n2)) e2 15).2.1) = (x.drop (n1 + n2)).drop (rdN (x.drop (n1 + n2)) e2 15).2.1 := by rw [List.drop_drop]
    rw [← hd3]
    generalize rdN (x.drop (n1 + n2)) e2 15 = a3 at *
    obtain ⟨w3, n3, e3⟩ := a3
    simp only [] at *
    clear hd3
    have f4 := F_least hI3 e3 9
    have b4 := rdL_le _ e3 9 hI3.rg
    rw [hI3.len] at b4
    have hI4 := hI3.next b4
    have hd4 : x.drop (n1 + n2 + n3 + (rdL (x.drop (n1 + n2 + n3)) e3 9).2.1) = (x.drop (n1 + n2 + n3)).drop (rdL (x.drop (n1 + n2 + n3)) e3 9).2.1 := by rw [List.drop_drop]
    rw [← hd4]
    generalize rdL (x.drop (n1 + n2 + n3)) e3 9 = a4 at *
    obtain ⟨w4, n4, e4⟩ := a4
    simp only [] at *
    clear hd4
    have fe := F_REnd x (n1 + n2 + n3 + n4) ((((x.length - n1) - n2) - n3) - n4) e4
    rw [hI4.len]
    by_cases hz : endE e4 ((((x.length - n1) - n2) - n3) - n4) = 0
    · rw [hz] at fe ⊢
      rw [if_neg (by simp)]
      repeat (first | refine W_assoc ?_ | (show W _ (.seq (.region _ _) _) _ _; refine W_reg (by simp; with_reducible rfl) ?_) | (show R _ _ _ (_ :: _) _ _ _ _; refine R_op (by simp (maxSteps := 2000000) [hnew, hbr, f1, f2, f3, f4, vf, g1, g2, g4, q1, q2, q4, fe]; with_reducible rfl) ?_) | (show R _ _ _ [] _ _ _ _; refine R_nil (by simp; with_reducible rfl) ?_) | (show W _ (.seq (.cond _ _ _) _) _ _; first | refine W_ct (by first | (simp [hnew, hbr, f1, f2, f3, f4, vf, g1, g2, g4, q1, q2, q4, fe]; done) | fail) ?_ | refine W_cf (by first | (simp [hnew, hbr, f1, f2, f3, f4, vf, g1, g2, g4, q1, q2, q4, fe]; done) | fail) ?_) | refine W_skip ?_ | refine W_bl (c := .seq _ _) ?_ | refine W_bl (c := .region _ _) ?_ | refine W_bl (c := .cond _ _ _) ?_ | refine W_bl (c := .block _ _) ?_ | refine W_rt ?_ | refine W_ex ?_ | refine W_end ?_ | refine W_tail (a := .region _ _) ?_ | refine W_tail (a := .cond _ _ _) ?_ | refine W_tail (a := .ret) ?_ | refine W_tail (a := .exit _) ?_ | refine W_tail (a := .block _ _) ?_ | refine QB_normal ?_ | refine QB_exit ?_ | refine QB_ret ?_ | refine QB_out (by decide) ?_ | refine QL_next ?_ | refine QL_exit ?_ | refine QL_ret ?_ | refine QL_out (by decide) ?_ | (show Fin _ _ .ret _; exact Fin_ret (by first | (simp [c27]; done) | (simp [c27]; with_reducible rfl))) | (show Fin _ _ .normal _; exact Fin_end (by first | (simp [c27]; done) | (simp [c27]; with_reducible rfl))))
    · rw [if_pos hz]
      repeat (first | refine W_assoc ?_ | (show W _ (.seq (.region _ _) _) _ _; refine W_reg (by simp; with_reducible rfl) ?_) | (show R _ _ _ (_ :: _) _ _ _ _; refine R_op (by simp (maxSteps := 2000000) [hnew, hbr, f1, f2, f3, f4, vf, g1, g2, g4, q1, q2, q4, fe, hz]; with_reducible rfl) ?_) | (show R _ _ _ [] _ _ _ _; refine R_nil (by simp; with_reducible rfl) ?_) | (show W _ (.seq (.cond _ _ _) _) _ _; first | refine W_ct (by first | (simp [hnew, hbr, f1, f2, f3, f4, vf, g1, g2, g4, q1, q2, q4, fe, hz]; done) | fail) ?_ | refine W_cf (by first | (simp [hnew, hbr, f1, f2, f3, f4, vf, g1, g2, g4, q1, q2, q4, fe, hz]; done) | fail) ?_) | refine W_skip ?_ | refine W_bl (c := .seq _ _) ?_ | refine W_bl (c := .region _ _) ?_ | refine W_bl (c := .cond _ _ _) ?_ | refine W_bl (c := .block _ _) ?_ | refine W_rt ?_ | refine W_ex ?_ | refine W_end ?_ | refine W_tail (a := .region _ _) ?_ | refine W_tail (a := .cond _ _ _) ?_ | refine W_tail (a := .ret) ?_ | refine W_tail (a := .exit _) ?_ | refine W_tail (a := .block _ _) ?_ | refine QB_normal ?_ | refine QB_exit ?_ | refine QB_ret ?_ | refine QB_out (by decide) ?_ | refine QL_next ?_ | refine QL_exit ?_ | refine QL_ret ?_ | refine QL_out (by decide) ?_ | (show Fin _ _ .ret _; exact Fin_ret (by first | (simp [c27]; done) | (simp [c27]; with_reducible rfl))) | (show Fin _ _ .normal _; exact Fin_end (by first | (simp [c27]; done) | (simp [c27]; with_reducible rfl))))

theorem F_R22Parse (x : List Int) (hx : ∀ a ∈ x, 0 ≤ a ∧ a ≤ 255) (hn : x.length ≤ 5000) : F T 28 [.str (bs x)] [] = some (.tup [.agg (m4 (parseM x).1), .int .i64 (parseM x).2], []) := by
  have hI0 : InR x 0 x.length := ⟨hx, by omega, by omega⟩
  have f1 := F_MNum x 0 11 hx (by omega)
  have f1' := fun c => F_MFail (x.drop (rdN x 0 11).2.1) c 3
  have b1 := rdL_le x 0 11 hx
  unfold parseM readM
  unfold rdL at b1 ⊢
  generalize rdN x 0 11 = a at *
  obtain ⟨k, n1, e0⟩ := a
  simp only [] at *
  have f2' := f1' e0
  obtain ⟨e1, he1⟩ : ∃ e1, e1 = (if k = 0 then (if e0 = 0 then 3 else e0) else e0) := ⟨_, rfl⟩
  rw [← he1]
  have hI1 := hI0.next b1
  rw [Nat.zero_add] at hI1
  have hr1 := hI1.rg
  have hl1 := hI1.len
  have v1 := V_Has1 k
  have v2 := V_Has2 k
  have v3 := V_Has3 k
  generalize hasJ k = hj at *
  generalize hasT k = ht at *
  generalize hasE k = he at *
  have hk : ∀ m : Int, True := fun _ => trivial
  have g2 := F_Field (x.drop n1) hr1 (by omega) e1 k 1 hj v1 true 1 72057594037927935 rfl
  have c2 : (rdH hj true (x.drop n1) e1 72057594037927935).2.1 ≤ (x.drop n1).length := by
    unfold rdH; split
    · exact rdL_le _ _ _ hr1
    · simp
  generalize rdH hj true (x.drop n1) e1 72057594037927935 = a2 at *
  obtain ⟨w2, n2, e2⟩ := a2
  simp only [] at *
  generalize hR1 : x.drop n1 = R1 at *
  have hr2 : ∀ a ∈ R1.drop n2, 0 ≤ a ∧ a ≤ 255 := fun a ha => hr1 a (List.mem_of_mem_drop ha)
  have hl2 : (R1.drop n2).length ≤ 5000 := by rw [List.length_drop]; omega
  have g3 := F_Field (R1.drop n2) hr2 (by omega) e2 k 2 ht v2 false 0 15 rfl
  generalize rdH ht false (R1.drop n2) e2 15 = a3 at *
  obtain ⟨w3, n3, e3⟩ := a3
  simp only [] at *
  generalize R1.drop n2 = R2 at *
  have hr3 : ∀ a ∈ R2.drop n3, 0 ≤ a ∧ a ≤ 255 := fun a ha => hr2 a (List.mem_of_mem_drop ha)
  have hl3 : (R2.drop n3).length ≤ 5000 := by rw [List.length_drop]; omega
  have g4 := F_Field (R2.drop n3) hr3 (by omega) e3 k 3 he v3 true 1 9 rfl
  generalize rdH he true (R2.drop n3) e3 9 = a4 at *
  obtain ⟨w4, n4, e4⟩ := a4
  simp only [] at *
  generalize R2.drop n3 = R3 at *
  have fe := F_MEnd (R3.drop n4) e4
  generalize R3.drop n4 = R4 at *
  refine F_W T28 ?_
  simp only [c28, c28_b, Lift.start]
  by_cases hk0 : k = 0
  · subst hk0
    rw [if_pos rfl] at he1
    rw [← he1] at f2'
    by_cases hz : endE e4 R4.length = 0
    · rw [hz] at fe ⊢
      rw [if_neg (by simp)]
      repeat (first | refine W_assoc ?_ | (show W _ (.seq (.region _ _) _) _ _; refine W_reg (by simp; with_reducible rfl) ?_) | (show R _ _ _ (_ :: _) _ _ _ _; refine R_op (by simp (maxSteps := 2000000) [f1, f2', g2, g3, g4, fe]; with_reducible rfl) ?_) | (show R _ _ _ [] _ _ _ _; refine R_nil (by simp; with_reducible rfl) ?_) | (show W _ (.seq (.cond _ _ _) _) _ _; first | refine W_ct (by first | (simp [f1, f2', g2, g3, g4, fe]; done) | fail) ?_ | refine W_cf (by first | (simp [f1, f2', g2, g3, g4, fe]; done) | fail) ?_) | refine W_skip ?_ | refine W_bl (c := .seq _ _) ?_ | refine W_bl (c := .region _ _) ?_ | refine W_bl (c := .cond _ _ _) ?_ | refine W_bl (c := .block _ _) ?_ | refine W_rt ?_ | refine W_ex ?_ | refine W_end ?_ | refine W_tail (a := .region _ _) ?_ | refine W_tail (a := .cond _ _ _) ?_ | refine W_tail (a := .ret) ?_ | refine W_tail (a := .exit _) ?_ | refine W_tail (a := .block _ _) ?_ | refine QB_normal ?_ | refine QB_exit ?_ | refine QB_ret ?_ | refine QB_out (by decide) ?_ | refine QL_next ?_ | refine QL_exit ?_ | refine QL_ret ?_ | refine QL_out (by decide) ?_ | (show Fin _ _ .ret _; exact Fin_ret (by first | (simp [c28]; done) | (simp [c28]; with_reducible rfl))) | (show Fin _ _ .normal _; exact Fin_end (by first | (simp [c28]; done) | (simp [c28]; with_reducible rfl))))
    · rw [if_pos hz]
      repeat (first | refine W_assoc ?_ | (show W _ (.seq (.region _ _) _) _ _; refine W_reg (by simp; with_reducible rfl) ?_) | (show R _ _ _ (_ :: _) _ _ _ _; refine R_op (by simp (maxSteps := 2000000) [f1, f2', g2, g3, g4, fe, hz]; with_reducible rfl) ?_) | (show R _ _ _ [] _ _ _ _; refine R_nil (by simp; with_reducible rfl) ?_) | (show W _ (.seq (.cond _ _ _) _) _ _; first | refine W_ct (by first | (simp [f1, f2', g2, g3, g4, fe, hz]; done) | fail) ?_ | refine W_cf (by first | (simp [f1, f2', g2, g3, g4, fe, hz]; done) | fail) ?_) | refine W_skip ?_ | refine W_bl (c := .seq _ _) ?_ | refine W_bl (c := .region _ _) ?_ | refine W_bl (c := .cond _ _ _) ?_ | refine W_bl (c := .block _ _) ?_ | refine W_rt ?_ | refine W_ex ?_ | refine W_end ?_ | refine W_tail (a := .region _ _) ?_ | refine W_tail (a := .cond _ _ _) ?_ | refine W_tail (a := .ret) ?_ | refine W_tail (a := .exit _) ?_ | refine W_tail (a := .block _ _) ?_ | refine QB_normal ?_ | refine QB_exit ?_ | refine QB_ret ?_ | refine QB_out (by decide) ?_ | refine QL_next ?_ | refine QL_exit ?_ | refine QL_ret ?_ | refine QL_out (by decide) ?_ | (show Fin _ _ .ret _; exact Fin_ret (by first | (simp [c28]; done) | (simp [c28]; with_reducible rfl))) | (show Fin _ _ .normal _; exact Fin_end (by first | (simp [c28]; done) | (simp [c28]; with_reducible rfl))))
  · rw [if_neg hk0] at he1
    subst he1
    by_cases hz : endE e4 R4.length = 0
    · rw [hz] at fe ⊢
      rw [if_neg (by simp)]
      repeat (first | refine W_assoc ?_ | (show W _ (.seq (.region _ _) _) _ _; refine W_reg (by simp; with_reducible rfl) ?_) | (show R _ _ _ (_ :: _) _ _ _ _; refine R_op (by simp (maxSteps := 2000000) [f1, hk0, g2, g3, g4, fe]; with_reducible rfl) ?_) | (show R _ _ _ [] _ _ _ _; refine R_nil (by simp; with_reducible rfl) ?_) | (show W _ (.seq (.cond _ _ _) _) _ _; first | refine W_ct (by first | (simp [f1, hk0, g2, g3, g4, fe]; done) | fail) ?_ | refine W_cf (by first | (simp [f1, hk0, g2, g3, g4, fe]; done) | fail) ?_) | refine W_skip ?_ | refine W_bl (c := .seq _ _) ?_ | refine W_bl (c := .region _ _) ?_ | refine W_bl (c := .cond _ _ _) ?_ | refine W_bl (c := .block _ _) ?_ | refine W_rt ?_ | refine W_ex ?_ | refine W_end ?_ | refine W_tail (a := .region _ _) ?_ | refine W_tail (a := .cond _ _ _) ?_ | refine W_tail (a := .ret) ?_ | refine W_tail (a := .exit _) ?_ | refine W_tail (a := .block _ _) ?_ | refine QB_normal ?_ | refine QB_exit ?_ | refine QB_ret ?_ | refine QB_out (by decide) ?_ | refine QL_next ?_ | refine QL_exit ?_ | refine QL_ret ?_ | refine QL_out (by decide) ?_ | (show Fin _ _ .ret _; exact Fin_ret (by first | (simp [c28]; done) | (simp [c28]; with_reducible rfl))) | (show Fin _ _ .normal _; exact Fin_end (by first | (simp [c28]; done) | (simp [c28]; with_reducible rfl))))
    · rw [if_pos hz]
      repeat (first | refine W_assoc ?_ | (show W _ (.seq (.region _ _) _) _ _; refine W_reg (by simp; with_reducible rfl) ?_) | (show R _ _ _ (_ :: _) _ _ _ _; refine R_op (by simp (maxSteps := 2000000) [f1, hk0, g2, g3, g4, fe, hz]; with_reducible rfl) ?_) | (show R _ _ _ [] _ _ _ _; refine R_nil (by simp; with_reducible rfl) ?_) | (show W _ (.seq (.cond _ _ _) _) _ _; first | refine W_ct (by first | (simp [f1, hk0, g2, g3, g4, fe, hz]; done) | fail) ?_ | refine W_cf (by first | (simp [f1, hk0, g2, g3, g4, fe, hz]; done) | fail) ?_) | refine W_skip ?_ | refine W_bl (c := .seq _ _) ?_ | refine W_bl (c := .region _ _) ?_ | refine W_bl (c := .cond _ _ _) ?_ | refine W_bl (c := .block _ _) ?_ | refine W_rt ?_ | refine W_ex ?_ | refine W_end ?_ | refine W_tail (a := .region _ _) ?_ | refine W_tail (a := .cond _ _ _) ?_ | refine W_tail (a := .ret) ?_ | refine W_tail (a := .exit _) ?_ | refine W_tail (a := .block _ _) ?_ | refine QB_normal ?_ | refine QB_exit ?_ | refine QB_ret ?_ | refine QB_out (by decide) ?_ | refine QL_next ?_ | refine QL_exit ?_ | refine QL_ret ?_ | refine QL_out (by decide) ?_ | (show Fin _ _ .ret _; exact Fin_ret (by first | (simp [c28]; done) | (simp [c28]; with_reducible rfl))) | (show Fin _ _ .normal _; exact Fin_end (by first | (simp [c28]; done) | (simp [c28]; with_reducible rfl))))

end Go.Proofs.Ytnobgooojbppbac.Oct
