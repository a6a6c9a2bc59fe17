/- Messages: the parser is the document's; there and back. -/
import Derived.Test.YtnobgooojbppbacMsg2
set_option linter.all false
set_option linter.unusedSimpArgs false
set_option maxRecDepth 100000
set_option maxHeartbeats 8000000
namespace Go.Proofs.Ytnobgooojbppbac.Oct
open Go Go.RowKit Go.Proofs.Ytnobgooojbppbac.Lift Go.Proofs.Ytnobgooojbppbac.TOC Go.Proofs.Ytnobgooojbppbac.Base

/-- One of the errors of a reader. -/
def E4 (e : Int) : Prop := e = 0 ∨ e = 2 ∨ e = 3 ∨ e = 4
theorem E4.wr {e : Int} (h : E4 e) : IntKind.i64.wrap e = e := by
  rcases h with rfl | rfl | rfl | rfl <;> rfl
theorem nxt_E4 (r : List Int) (m : Int) : E4 (nxt r m).2.2 := by
  unfold E4
  cases r with
  | nil => simp [nxt]
  | cons a t =>
    rw [nxt.eq_def]
    simp only []
    split
    · unfold capped; split <;> simp
    · split
      · simp
      · split
        · simp
        · split
          · simp
          · unfold capped; split <;> simp
theorem rdN_E4 (r : List Int) (e m : Int) (h : E4 e) : E4 (rdN r e m).2.2 := by
  unfold rdN
  split
  · exact h
  · split
    · exact nxt_E4 r m
    · exact .inl rfl
theorem rdL_E4 (r : List Int) (e m : Int) (h : E4 e) : E4 (rdL r e m).2.2 := by
  have := rdN_E4 r e m h
  unfold rdL
  simp only []
  split
  · split
    · exact .inr (.inr (.inl rfl))
    · exact this
  · exact this
theorem rdH_E4 (b l : Bool) (r : List Int) (e m : Int) (h : E4 e) : E4 (rdH b l r e m).2.2 := by
  unfold rdH
  split
  · split
    · exact rdL_E4 _ _ _ h
    · exact rdN_E4 _ _ _ h
  · exact h
theorem endE_E4 (e : Int) (n : Nat) (h : E4 e) : E4 (endE e n) := by
  unfold endE
  split
  · exact h
  · split
    · exact .inr (.inr (.inl rfl))
    · exact .inl rfl
theorem parseM_E4 (x : List Int) : E4 (parseM x).2 := by
  unfold parseM
  split
  · refine endE_E4 _ _ ?_
    unfold readM
    exact rdH_E4 _ _ _ _ _ (rdH_E4 _ _ _ _ _ (rdH_E4 _ _ _ _ _ (rdL_E4 _ _ _ (.inl rfl))))
  · exact .inl rfl

theorem sb_range (s : ByteArray) : ∀ a ∈ sb s, 0 ≤ a ∧ a ≤ 255 := by
  intro a ha
  obtain ⟨b, _, rfl⟩ := List.mem_map.1 ha
  have := b.toNat_lt
  omega

theorem bs_inj {a b : List Int} (ha : ∀ x ∈ a, 0 ≤ x ∧ x ≤ 255) (hb : ∀ x ∈ b, 0 ≤ x ∧ x ≤ 255) (h : bs a = bs b) : a = b := by
  rw [← sb_bs a ha, h, sb_bs b hb]

theorem V_works22 : FV (F T) 26 [] = some (.bool true) := by
  have hw : F T 26 [] [] = some (.bool true, []) := F_iff.2 ⟨20, by kernel_rfl⟩
  have h := FV_of hw
  simpa using h

theorem eq4 (a b : M4) : eqCs [0, 0, 0, 0] [.int .i64 a.1, .int .i64 a.2.1, .int .i64 a.2.2.1, .int .i64 a.2.2.2] [.int .i64 b.1, .int .i64 b.2.1, .int .i64 b.2.2.1, .int .i64 b.2.2.2] = some (decide (a = b)) := by
  obtain ⟨a1, a2, a3, a4⟩ := a
  obtain ⟨b1, b2, b3, b4⟩ := b
  simp [eqCs]
  constructor <;> (rintro ⟨h1, h2, h3, h4⟩; simp_all)

theorem parses (s : ByteArray) : F T 4 [.str s] [] = some (.bool true, []) := by
  refine F_W T4 ?_
  simp only [c4, c4_b, Lift.start]
  by_cases h1 : 1000 < s.size
  · have h1' : (1000 : Int) < s.size := by omega
    repeat (first | refine W_assoc ?_ | (show W _ (.seq (.region _ _) _) _ _; refine W_reg (by simp; with_reducible rfl) ?_) | (show R _ _ _ (_ :: _) _ _ _ _; refine R_op (by simp (maxSteps := 2000000) [h1, h1', V_works22]; with_reducible rfl) ?_) | (show R _ _ _ [] _ _ _ _; refine R_nil (by simp; with_reducible rfl) ?_) | (show W _ (.seq (.cond _ _ _) _) _ _; first | refine W_ct (by first | (simp [h1, h1', V_works22]; done) | fail) ?_ | refine W_cf (by first | (simp [h1, h1', V_works22]; done) | fail) ?_) | refine W_skip ?_ | refine W_bl (c := .seq _ _) ?_ | refine W_bl (c := .region _ _) ?_ | refine W_bl (c := .cond _ _ _) ?_ | refine W_bl (c := .block _ _) ?_ | refine W_rt ?_ | refine W_ex ?_ | refine W_end ?_ | refine W_tail (a := .region _ _) ?_ | refine W_tail (a := .cond _ _ _) ?_ | refine W_tail (a := .ret) ?_ | refine W_tail (a := .exit _) ?_ | refine W_tail (a := .block _ _) ?_ | refine QB_normal ?_ | refine QB_exit ?_ | refine QB_ret ?_ | refine QB_out (by decide) ?_ | refine QL_next ?_ | refine QL_exit ?_ | refine QL_ret ?_ | refine QL_out (by decide) ?_ | (show Fin _ _ .ret _; exact Fin_ret (by first | (simp [c4]; done) | (simp [c4]; with_reducible rfl))) | (show Fin _ _ .normal _; exact Fin_end (by first | (simp [c4]; done) | (simp [c4]; with_reducible rfl))))
  have h1' : ¬ (1000 : Int) < s.size := by omega
  have f1 := FV_of (F_Parse (sb s) (sb_range s) (by rw [sb_length]; omega))
  have f2 := FV_of (F_R22Parse (sb s) (sb_range s) (by rw [sb_length]; omega))
  have hw := (parseM_E4 (sb s)).wr
  rw [bs_sb] at f1 f2
  simp only [clo, List.map, m4] at f1 f2
  generalize parseM (sb s) = q at *
  obtain ⟨m, e⟩ := q
  simp only [] at f1 f2 hw
  have hq := eq4 m m
  repeat (first | refine W_assoc ?_ | (show W _ (.seq (.region _ _) _) _ _; refine W_reg (by simp; with_reducible rfl) ?_) | (show R _ _ _ (_ :: _) _ _ _ _; refine R_op (by simp (maxSteps := 2000000) [h1, h1', f1, f2, hw, hq, V_works22]; with_reducible rfl) ?_) | (show R _ _ _ [] _ _ _ _; refine R_nil (by simp; with_reducible rfl) ?_) | (show W _ (.seq (.cond _ _ _) _) _ _; first | refine W_ct (by first | (simp [h1, h1', f1, f2, hw, hq, V_works22]; done) | fail) ?_ | refine W_cf (by first | (simp [h1, h1', f1, f2, hw, hq, V_works22]; done) | fail) ?_) | refine W_skip ?_ | refine W_bl (c := .seq _ _) ?_ | refine W_bl (c := .region _ _) ?_ | refine W_bl (c := .cond _ _ _) ?_ | refine W_bl (c := .block _ _) ?_ | refine W_rt ?_ | refine W_ex ?_ | refine W_end ?_ | refine W_tail (a := .region _ _) ?_ | refine W_tail (a := .cond _ _ _) ?_ | refine W_tail (a := .ret) ?_ | refine W_tail (a := .exit _) ?_ | refine W_tail (a := .block _ _) ?_ | refine QB_normal ?_ | refine QB_exit ?_ | refine QB_ret ?_ | refine QB_out (by decide) ?_ | refine QL_next ?_ | refine QL_exit ?_ | refine QL_ret ?_ | refine QL_out (by decide) ?_ | (show Fin _ _ .ret _; exact Fin_ret (by first | (simp [c4]; done) | (simp [c4]; with_reducible rfl))) | (show Fin _ _ .normal _; exact Fin_end (by first | (simp [c4]; done) | (simp [c4]; with_reducible rfl))))

theorem bytesM_range (m : M4) (h : chkM m = true) : ∀ d ∈ bytesM m, 0 ≤ d ∧ d ≤ 255 := by
  obtain ⟨k, j, t, e⟩ := m
  simp only [chkM, Bool.and_eq_true, decide_eq_true_eq] at h
  obtain ⟨h1, h2, h3, h4, h5⟩ := h
  have key : ∀ (b : Bool) (n lo m : Int), m < 72057594037927936 → inF b n lo m = true → n < 72057594037927936 := by
    intro b n lo m hm hq
    unfold inF at hq
    split at hq <;> simp at hq <;> omega
  unfold bytesM
  intro d hd
  simp only [List.mem_append] at hd
  rcases hd with hd | hd | hd | hd
  · exact numB_range _ (by omega) d hd
  · exact fb_range _ _ (key _ _ _ _ (by omega) h3) d hd
  · exact fb_range _ _ (key _ _ _ _ (by omega) h4) d hd
  · exact fb_range _ _ (key _ _ _ _ (by omega) h5) d hd

theorem bytesM_len (m : M4) (h : chkM m = true) : (bytesM m).length ≤ 32 := by
  obtain ⟨k, j, t, e⟩ := m
  simp only [chkM, Bool.and_eq_true, decide_eq_true_eq] at h
  obtain ⟨h1, h2, h3, h4, h5⟩ := h
  have key : ∀ (b : Bool) (n lo m : Int), m < 72057594037927936 → inF b n lo m = true → n < 72057594037927936 := by
    intro b n lo m hm hq
    unfold inF at hq
    split at hq <;> simp at hq <;> omega
  have g1 := numB_len k.toNat (by omega)
  have g2 := fb_len (hasJ k) j (key _ _ _ _ (by omega) h3)
  have g3 := fb_len (hasT k) t (key _ _ _ _ (by omega) h4)
  have g4 := fb_len (hasE k) e (key _ _ _ _ (by omega) h5)
  unfold bytesM
  simp only [List.length_append]
  omega

theorem back (a b : M4) (s : ByteArray) : F T 5 [.agg (m4 a), .agg (m4 b), .str s] [] = some (.bool true, []) := by
  have va := V_Check a
  have vb := V_Check b
  simp only [m4] at va vb
  refine F_W T5 ?_
  simp only [c5, c5_b, Lift.start]
  by_cases h1 : 1000 < s.size
  · have h1' : (1000 : Int) < s.size := by omega
    repeat (first | refine W_assoc ?_ | (show W _ (.seq (.region _ _) _) _ _; refine W_reg (by simp; with_reducible rfl) ?_) | (show R _ _ _ (_ :: _) _ _ _ _; refine R_op (by simp (maxSteps := 2000000) [h1, h1', V_works22]; with_reducible rfl) ?_) | (show R _ _ _ [] _ _ _ _; refine R_nil (by simp; with_reducible rfl) ?_) | (show W _ (.seq (.cond _ _ _) _) _ _; first | refine W_ct (by first | (simp [h1, h1', V_works22]; done) | fail) ?_ | refine W_cf (by first | (simp [h1, h1', V_works22]; done) | fail) ?_) | refine W_skip ?_ | refine W_bl (c := .seq _ _) ?_ | refine W_bl (c := .region _ _) ?_ | refine W_bl (c := .cond _ _ _) ?_ | refine W_bl (c := .block _ _) ?_ | refine W_rt ?_ | refine W_ex ?_ | refine W_end ?_ | refine W_tail (a := .region _ _) ?_ | refine W_tail (a := .cond _ _ _) ?_ | refine W_tail (a := .ret) ?_ | refine W_tail (a := .exit _) ?_ | refine W_tail (a := .block _ _) ?_ | refine QB_normal ?_ | refine QB_exit ?_ | refine QB_ret ?_ | refine QB_out (by decide) ?_ | refine QL_next ?_ | refine QL_exit ?_ | refine QL_ret ?_ | refine QL_out (by decide) ?_ | (show Fin _ _ .ret _; exact Fin_ret (by first | (simp [c5]; done) | (simp [c5]; with_reducible rfl))) | (show Fin _ _ .normal _; exact Fin_end (by first | (simp [c5]; done) | (simp [c5]; with_reducible rfl))))
  have h1' : ¬ (1000 : Int) < s.size := by omega
  have f1 := FV_of (F_Parse (sb s) (sb_range s) (by rw [sb_length]; omega))
  have hw := (parseM_E4 (sb s)).wr
  have hbk := parseM_back (sb s) (sb_range s)
  rw [bs_sb] at f1
  simp only [clo, List.map, m4] at f1
  generalize parseM (sb s) = q at *
  obtain ⟨m, e⟩ := q
  simp only [] at f1 hw hbk
  -- the first test
  have hfirst : e = 0 → chkM m = true ∧ FV (F T) 30 [.agg (m4 m)] = some (.str s) := by
    intro he
    obtain ⟨g1, g2⟩ := hbk he
    refine ⟨g1, ?_⟩
    have := V_Bytes22 m g1
    rw [g2, bs_sb] at this
    exact this
  have vm := V_Check m
  simp only [m4] at vm hfirst
  cases ha : chkM a with
  | false =>
    have ya := V_Bytes0 a ha
    rw [ha] at va
    simp only [m4] at ya
    cases hb : chkM b with
    | false =>
      have yb := V_Bytes0 b hb
      simp only [m4] at yb
      by_cases he : e = 0
      · obtain ⟨g1, g2⟩ := hfirst he
        rw [g1] at vm
        repeat (first | refine W_assoc ?_ | (show W _ (.seq (.region _ _) _) _ _; refine W_reg (by simp; with_reducible rfl) ?_) | (show R _ _ _ (_ :: _) _ _ _ _; refine R_op (by simp (maxSteps := 2000000) [h1, h1', f1, he, vm, g2, va, ya, yb, V_works22]; with_reducible rfl) ?_) | (show R _ _ _ [] _ _ _ _; refine R_nil (by simp; with_reducible rfl) ?_) | (show W _ (.seq (.cond _ _ _) _) _ _; first | refine W_ct (by first | (simp [h1, h1', f1, he, vm, g2, va, ya, yb, V_works22]; done) | fail) ?_ | refine W_cf (by first | (simp [h1, h1', f1, he, vm, g2, va, ya, yb, V_works22]; done) | fail) ?_) | refine W_skip ?_ | refine W_bl (c := .seq _ _) ?_ | refine W_bl (c := .region _ _) ?_ | refine W_bl (c := .cond _ _ _) ?_ | refine W_bl (c := .block _ _) ?_ | refine W_rt ?_ | refine W_ex ?_ | refine W_end ?_ | refine W_tail (a := .region _ _) ?_ | refine W_tail (a := .cond _ _ _) ?_ | refine W_tail (a := .ret) ?_ | refine W_tail (a := .exit _) ?_ | refine W_tail (a := .block _ _) ?_ | refine QB_normal ?_ | refine QB_exit ?_ | refine QB_ret ?_ | refine QB_out (by decide) ?_ | refine QL_next ?_ | refine QL_exit ?_ | refine QL_ret ?_ | refine QL_out (by decide) ?_ | (show Fin _ _ .ret _; exact Fin_ret (by first | (simp [c5]; done) | (simp [c5]; with_reducible rfl))) | (show Fin _ _ .normal _; exact Fin_end (by first | (simp [c5]; done) | (simp [c5]; with_reducible rfl))))
      · repeat (first | refine W_assoc ?_ | (show W _ (.seq (.region _ _) _) _ _; refine W_reg (by simp; with_reducible rfl) ?_) | (show R _ _ _ (_ :: _) _ _ _ _; refine R_op (by simp (maxSteps := 2000000) [h1, h1', f1, he, va, ya, yb, V_works22]; with_reducible rfl) ?_) | (show R _ _ _ [] _ _ _ _; refine R_nil (by simp; with_reducible rfl) ?_) | (show W _ (.seq (.cond _ _ _) _) _ _; first | refine W_ct (by first | (simp [h1, h1', f1, he, va, ya, yb, V_works22]; done) | fail) ?_ | refine W_cf (by first | (simp [h1, h1', f1, he, va, ya, yb, V_works22]; done) | fail) ?_) | refine W_skip ?_ | refine W_bl (c := .seq _ _) ?_ | refine W_bl (c := .region _ _) ?_ | refine W_bl (c := .cond _ _ _) ?_ | refine W_bl (c := .block _ _) ?_ | refine W_rt ?_ | refine W_ex ?_ | refine W_end ?_ | refine W_tail (a := .region _ _) ?_ | refine W_tail (a := .cond _ _ _) ?_ | refine W_tail (a := .ret) ?_ | refine W_tail (a := .exit _) ?_ | refine W_tail (a := .block _ _) ?_ | refine QB_normal ?_ | refine QB_exit ?_ | refine QB_ret ?_ | refine QB_out (by decide) ?_ | refine QL_next ?_ | refine QL_exit ?_ | refine QL_ret ?_ | refine QL_out (by decide) ?_ | (show Fin _ _ .ret _; exact Fin_ret (by first | (simp [c5]; done) | (simp [c5]; with_reducible rfl))) | (show Fin _ _ .normal _; exact Fin_end (by first | (simp [c5]; done) | (simp [c5]; with_reducible rfl))))
    | true =>
      have yb := V_Bytes22 b hb
      simp only [m4] at yb
      generalize bytesM b = B at *
      by_cases he : e = 0
      · obtain ⟨g1, g2⟩ := hfirst he
        rw [g1] at vm
        repeat (first | refine W_assoc ?_ | (show W _ (.seq (.region _ _) _) _ _; refine W_reg (by simp; with_reducible rfl) ?_) | (show R _ _ _ (_ :: _) _ _ _ _; refine R_op (by simp (maxSteps := 2000000) [h1, h1', f1, he, vm, g2, va, ya, yb, V_works22]; with_reducible rfl) ?_) | (show R _ _ _ [] _ _ _ _; refine R_nil (by simp; with_reducible rfl) ?_) | (show W _ (.seq (.cond _ _ _) _) _ _; first | refine W_ct (by first | (simp [h1, h1', f1, he, vm, g2, va, ya, yb, V_works22]; done) | fail) ?_ | refine W_cf (by first | (simp [h1, h1', f1, he, vm, g2, va, ya, yb, V_works22]; done) | fail) ?_) | refine W_skip ?_ | refine W_bl (c := .seq _ _) ?_ | refine W_bl (c := .region _ _) ?_ | refine W_bl (c := .cond _ _ _) ?_ | refine W_bl (c := .block _ _) ?_ | refine W_rt ?_ | refine W_ex ?_ | refine W_end ?_ | refine W_tail (a := .region _ _) ?_ | refine W_tail (a := .cond _ _ _) ?_ | refine W_tail (a := .ret) ?_ | refine W_tail (a := .exit _) ?_ | refine W_tail (a := .block _ _) ?_ | refine QB_normal ?_ | refine QB_exit ?_ | refine QB_ret ?_ | refine QB_out (by decide) ?_ | refine QL_next ?_ | refine QL_exit ?_ | refine QL_ret ?_ | refine QL_out (by decide) ?_ | (show Fin _ _ .ret _; exact Fin_ret (by first | (simp [c5]; done) | (simp [c5]; with_reducible rfl))) | (show Fin _ _ .normal _; exact Fin_end (by first | (simp [c5]; done) | (simp [c5]; with_reducible rfl))))
      · repeat (first | refine W_assoc ?_ | (show W _ (.seq (.region _ _) _) _ _; refine W_reg (by simp; with_reducible rfl) ?_) | (show R _ _ _ (_ :: _) _ _ _ _; refine R_op (by simp (maxSteps := 2000000) [h1, h1', f1, he, va, ya, yb, V_works22]; with_reducible rfl) ?_) | (show R _ _ _ [] _ _ _ _; refine R_nil (by simp; with_reducible rfl) ?_) | (show W _ (.seq (.cond _ _ _) _) _ _; first | refine W_ct (by first | (simp [h1, h1', f1, he, va, ya, yb, V_works22]; done) | fail) ?_ | refine W_cf (by first | (simp [h1, h1', f1, he, va, ya, yb, V_works22]; done) | fail) ?_) | refine W_skip ?_ | refine W_bl (c := .seq _ _) ?_ | refine W_bl (c := .region _ _) ?_ | refine W_bl (c := .cond _ _ _) ?_ | refine W_bl (c := .block _ _) ?_ | refine W_rt ?_ | refine W_ex ?_ | refine W_end ?_ | refine W_tail (a := .region _ _) ?_ | refine W_tail (a := .cond _ _ _) ?_ | refine W_tail (a := .ret) ?_ | refine W_tail (a := .exit _) ?_ | refine W_tail (a := .block _ _) ?_ | refine QB_normal ?_ | refine QB_exit ?_ | refine QB_ret ?_ | refine QB_out (by decide) ?_ | refine QL_next ?_ | refine QL_exit ?_ | refine QL_ret ?_ | refine QL_out (by decide) ?_ | (show Fin _ _ .ret _; exact Fin_ret (by first | (simp [c5]; done) | (simp [c5]; with_reducible rfl))) | (show Fin _ _ .normal _; exact Fin_end (by first | (simp [c5]; done) | (simp [c5]; with_reducible rfl))))
  | true =>
    have ya := V_Bytes22 a ha
    have pa := FV_of (F_Parse (bytesM a) (bytesM_range a ha) (by have := bytesM_len a ha; omega))
    rw [parseM_bytes a ha] at pa
    rw [ha] at va
    simp only [m4] at ya pa
    simp only [clo, List.map] at pa
    cases hb : chkM b with
    | false =>
      have yb := V_Bytes0 b hb
      rw [hb] at vb
      simp only [m4] at yb
      generalize bytesM a = A at *
      by_cases he : e = 0
      · obtain ⟨g1, g2⟩ := hfirst he
        rw [g1] at vm
        repeat (first | refine W_assoc ?_ | (show W _ (.seq (.region _ _) _) _ _; refine W_reg (by simp; with_reducible rfl) ?_) | (show R _ _ _ (_ :: _) _ _ _ _; refine R_op (by simp (maxSteps := 2000000) [h1, h1', f1, he, vm, g2, va, vb, ya, yb, V_works22]; with_reducible rfl) ?_) | (show R _ _ _ [] _ _ _ _; refine R_nil (by simp; with_reducible rfl) ?_) | (show W _ (.seq (.cond _ _ _) _) _ _; first | refine W_ct (by first | (simp [h1, h1', f1, he, vm, g2, va, vb, ya, yb, V_works22]; done) | fail) ?_ | refine W_cf (by first | (simp [h1, h1', f1, he, vm, g2, va, vb, ya, yb, V_works22]; done) | fail) ?_) | refine W_skip ?_ | refine W_bl (c := .seq _ _) ?_ | refine W_bl (c := .region _ _) ?_ | refine W_bl (c := .cond _ _ _) ?_ | refine W_bl (c := .block _ _) ?_ | refine W_rt ?_ | refine W_ex ?_ | refine W_end ?_ | refine W_tail (a := .region _ _) ?_ | refine W_tail (a := .cond _ _ _) ?_ | refine W_tail (a := .ret) ?_ | refine W_tail (a := .exit _) ?_ | refine W_tail (a := .block _ _) ?_ | refine QB_normal ?_ | refine QB_exit ?_ | refine QB_ret ?_ | refine QB_out (by decide) ?_ | refine QL_next ?_ | refine QL_exit ?_ | refine QL_ret ?_ | refine QL_out (by decide) ?_ | (show Fin _ _ .ret _; exact Fin_ret (by first | (simp [c5]; done) | (simp [c5]; with_reducible rfl))) | (show Fin _ _ .normal _; exact Fin_end (by first | (simp [c5]; done) | (simp [c5]; with_reducible rfl))))
      · repeat (first | refine W_assoc ?_ | (show W _ (.seq (.region _ _) _) _ _; refine W_reg (by simp; with_reducible rfl) ?_) | (show R _ _ _ (_ :: _) _ _ _ _; refine R_op (by simp (maxSteps := 2000000) [h1, h1', f1, he, va, vb, ya, yb, V_works22]; with_reducible rfl) ?_) | (show R _ _ _ [] _ _ _ _; refine R_nil (by simp; with_reducible rfl) ?_) | (show W _ (.seq (.cond _ _ _) _) _ _; first | refine W_ct (by first | (simp [h1, h1', f1, he, va, vb, ya, yb, V_works22]; done) | fail) ?_ | refine W_cf (by first | (simp [h1, h1', f1, he, va, vb, ya, yb, V_works22]; done) | fail) ?_) | refine W_skip ?_ | refine W_bl (c := .seq _ _) ?_ | refine W_bl (c := .region _ _) ?_ | refine W_bl (c := .cond _ _ _) ?_ | refine W_bl (c := .block _ _) ?_ | refine W_rt ?_ | refine W_ex ?_ | refine W_end ?_ | refine W_tail (a := .region _ _) ?_ | refine W_tail (a := .cond _ _ _) ?_ | refine W_tail (a := .ret) ?_ | refine W_tail (a := .exit _) ?_ | refine W_tail (a := .block _ _) ?_ | refine QB_normal ?_ | refine QB_exit ?_ | refine QB_ret ?_ | refine QB_out (by decide) ?_ | refine QL_next ?_ | refine QL_exit ?_ | refine QL_ret ?_ | refine QL_out (by decide) ?_ | (show Fin _ _ .ret _; exact Fin_ret (by first | (simp [c5]; done) | (simp [c5]; with_reducible rfl))) | (show Fin _ _ .normal _; exact Fin_end (by first | (simp [c5]; done) | (simp [c5]; with_reducible rfl))))
    | true =>
      have yb := V_Bytes22 b hb
      rw [hb] at vb
      simp only [m4] at yb
      have qa := eq4 a a
      have qb := eq4 a b
      simp only [decide_true] at qa
      by_cases hab : a = b
      · subst hab
        generalize bytesM a = A at *
        by_cases he : e = 0
        · obtain ⟨g1, g2⟩ := hfirst he
          rw [g1] at vm
          repeat (first | refine W_assoc ?_ | (show W _ (.seq (.region _ _) _) _ _; refine W_reg (by simp; with_reducible rfl) ?_) | (show R _ _ _ (_ :: _) _ _ _ _; refine R_op (by simp (maxSteps := 2000000) [h1, h1', f1, he, vm, g2, va, ya, pa, qa, V_works22]; with_reducible rfl) ?_) | (show R _ _ _ [] _ _ _ _; refine R_nil (by simp; with_reducible rfl) ?_) | (show W _ (.seq (.cond _ _ _) _) _ _; first | refine W_ct (by first | (simp [h1, h1', f1, he, vm, g2, va, ya, pa, qa, V_works22]; done) | fail) ?_ | refine W_cf (by first | (simp [h1, h1', f1, he, vm, g2, va, ya, pa, qa, V_works22]; done) | fail) ?_) | refine W_skip ?_ | refine W_bl (c := .seq _ _) ?_ | refine W_bl (c := .region _ _) ?_ | refine W_bl (c := .cond _ _ _) ?_ | refine W_bl (c := .block _ _) ?_ | refine W_rt ?_ | refine W_ex ?_ | refine W_end ?_ | refine W_tail (a := .region _ _) ?_ | refine W_tail (a := .cond _ _ _) ?_ | refine W_tail (a := .ret) ?_ | refine W_tail (a := .exit _) ?_ | refine W_tail (a := .block _ _) ?_ | refine QB_normal ?_ | refine QB_exit ?_ | refine QB_ret ?_ | refine QB_out (by decide) ?_ | refine QL_next ?_ | refine QL_exit ?_ | refine QL_ret ?_ | refine QL_out (by decide) ?_ | (show Fin _ _ .ret _; exact Fin_ret (by first | (simp [c5]; done) | (simp [c5]; with_reducible rfl))) | (show Fin _ _ .normal _; exact Fin_end (by first | (simp [c5]; done) | (simp [c5]; with_reducible rfl))))
        · repeat (first | refine W_assoc ?_ | (show W _ (.seq (.region _ _) _) _ _; refine W_reg (by simp; with_reducible rfl) ?_) | (show R _ _ _ (_ :: _) _ _ _ _; refine R_op (by simp (maxSteps := 2000000) [h1, h1', f1, he, va, ya, pa, qa, V_works22]; with_reducible rfl) ?_) | (show R _ _ _ [] _ _ _ _; refine R_nil (by simp; with_reducible rfl) ?_) | (show W _ (.seq (.cond _ _ _) _) _ _; first | refine W_ct (by first | (simp [h1, h1', f1, he, va, ya, pa, qa, V_works22]; done) | fail) ?_ | refine W_cf (by first | (simp [h1, h1', f1, he, va, ya, pa, qa, V_works22]; done) | fail) ?_) | refine W_skip ?_ | refine W_bl (c := .seq _ _) ?_ | refine W_bl (c := .region _ _) ?_ | refine W_bl (c := .cond _ _ _) ?_ | refine W_bl (c := .block _ _) ?_ | refine W_rt ?_ | refine W_ex ?_ | refine W_end ?_ | refine W_tail (a := .region _ _) ?_ | refine W_tail (a := .cond _ _ _) ?_ | refine W_tail (a := .ret) ?_ | refine W_tail (a := .exit _) ?_ | refine W_tail (a := .block _ _) ?_ | refine QB_normal ?_ | refine QB_exit ?_ | refine QB_ret ?_ | refine QB_out (by decide) ?_ | refine QL_next ?_ | refine QL_exit ?_ | refine QL_ret ?_ | refine QL_out (by decide) ?_ | (show Fin _ _ .ret _; exact Fin_ret (by first | (simp [c5]; done) | (simp [c5]; with_reducible rfl))) | (show Fin _ _ .normal _; exact Fin_end (by first | (simp [c5]; done) | (simp [c5]; with_reducible rfl))))
      · rw [decide_eq_false hab] at qb
        have hne : (bytesM a).length ≤ (bytesM b).length → ¬ bs ((bytesM b).take (bytesM a).length) = bs (bytesM a) := by
          intro hle heq
          have h2 := bs_inj (fun d hd => bytesM_range b hb d (List.mem_of_mem_take hd)) (bytesM_range a ha) heq
          refine hab (bytesM_prefix a b ha hb ((bytesM b).drop (bytesM a).length) ?_)
          conv => lhs; rw [← List.take_append_drop (bytesM a).length (bytesM b), h2]
        generalize bytesM a = A at *
        generalize bytesM b = B at *
        by_cases hle : A.length ≤ B.length
        · have hn := hne hle
          have hle' : (A.length : Int) ≤ B.length := by omega
          by_cases he : e = 0
          · obtain ⟨g1, g2⟩ := hfirst he
            rw [g1] at vm
            repeat (first | refine W_assoc ?_ | (show W _ (.seq (.region _ _) _) _ _; refine W_reg (by simp; with_reducible rfl) ?_) | (show R _ _ _ (_ :: _) _ _ _ _; refine R_op (by simp (maxSteps := 2000000) [h1, h1', f1, he, vm, g2, va, vb, ya, yb, pa, qa, qb, hle, hle', hn, V_works22]; with_reducible rfl) ?_) | (show R _ _ _ [] _ _ _ _; refine R_nil (by simp; with_reducible rfl) ?_) | (show W _ (.seq (.cond _ _ _) _) _ _; first | refine W_ct (by first | (simp [h1, h1', f1, he, vm, g2, va, vb, ya, yb, pa, qa, qb, hle, hle', hn, V_works22]; done) | fail) ?_ | refine W_cf (by first | (simp [h1, h1', f1, he, vm, g2, va, vb, ya, yb, pa, qa, qb, hle, hle', hn, V_works22]; done) | fail) ?_) | refine W_skip ?_ | refine W_bl (c := .seq _ _) ?_ | refine W_bl (c := .region _ _) ?_ | refine W_bl (c := .cond _ _ _) ?_ | refine W_bl (c := .block _ _) ?_ | refine W_rt ?_ | refine W_ex ?_ | refine W_end ?_ | refine W_tail (a := .region _ _) ?_ | refine W_tail (a := .cond _ _ _) ?_ | refine W_tail (a := .ret) ?_ | refine W_tail (a := .exit _) ?_ | refine W_tail (a := .block _ _) ?_ | refine QB_normal ?_ | refine QB_exit ?_ | refine QB_ret ?_ | refine QB_out (by decide) ?_ | refine QL_next ?_ | refine QL_exit ?_ | refine QL_ret ?_ | refine QL_out (by decide) ?_ | (show Fin _ _ .ret _; exact Fin_ret (by first | (simp [c5]; done) | (simp [c5]; with_reducible rfl))) | (show Fin _ _ .normal _; exact Fin_end (by first | (simp [c5]; done) | (simp [c5]; with_reducible rfl))))
          · repeat (first | refine W_assoc ?_ | (show W _ (.seq (.region _ _) _) _ _; refine W_reg (by simp; with_reducible rfl) ?_) | (show R _ _ _ (_ :: _) _ _ _ _; refine R_op (by simp (maxSteps := 2000000) [h1, h1', f1, he, va, vb, ya, yb, pa, qa, qb, hle, hle', hn, V_works22]; with_reducible rfl) ?_) | (show R _ _ _ [] _ _ _ _; refine R_nil (by simp; with_reducible rfl) ?_) | (show W _ (.seq (.cond _ _ _) _) _ _; first | refine W_ct (by first | (simp [h1, h1', f1, he, va, vb, ya, yb, pa, qa, qb, hle, hle', hn, V_works22]; done) | fail) ?_ | refine W_cf (by first | (simp [h1, h1', f1, he, va, vb, ya, yb, pa, qa, qb, hle, hle', hn, V_works22]; done) | fail) ?_) | refine W_skip ?_ | refine W_bl (c := .seq _ _) ?_ | refine W_bl (c := .region _ _) ?_ | refine W_bl (c := .cond _ _ _) ?_ | refine W_bl (c := .block _ _) ?_ | refine W_rt ?_ | refine W_ex ?_ | refine W_end ?_ | refine W_tail (a := .region _ _) ?_ | refine W_tail (a := .cond _ _ _) ?_ | refine W_tail (a := .ret) ?_ | refine W_tail (a := .exit _) ?_ | refine W_tail (a := .block _ _) ?_ | refine QB_normal ?_ | refine QB_exit ?_ | refine QB_ret ?_ | refine QB_out (by decide) ?_ | refine QL_next ?_ | refine QL_exit ?_ | refine QL_ret ?_ | refine QL_out (by decide) ?_ | (show Fin _ _ .ret _; exact Fin_ret (by first | (simp [c5]; done) | (simp [c5]; with_reducible rfl))) | (show Fin _ _ .normal _; exact Fin_end (by first | (simp [c5]; done) | (simp [c5]; with_reducible rfl))))
        · have hle' : ¬ (A.length : Int) ≤ B.length := by omega
          by_cases he : e = 0
          · obtain ⟨g1, g2⟩ := hfirst he
            rw [g1] at vm
            repeat (first | refine W_assoc ?_ | (show W _ (.seq (.region _ _) _) _ _; refine W_reg (by simp; with_reducible rfl) ?_) | (show R _ _ _ (_ :: _) _ _ _ _; refine R_op (by simp (maxSteps := 2000000) [h1, h1', f1, he, vm, g2, va, vb, ya, yb, pa, qa, qb, hle, hle', V_works22]; with_reducible rfl) ?_) | (show R _ _ _ [] _ _ _ _; refine R_nil (by simp; with_reducible rfl) ?_) | (show W _ (.seq (.cond _ _ _) _) _ _; first | refine W_ct (by first | (simp [h1, h1', f1, he, vm, g2, va, vb, ya, yb, pa, qa, qb, hle, hle', V_works22]; done) | fail) ?_ | refine W_cf (by first | (simp [h1, h1', f1, he, vm, g2, va, vb, ya, yb, pa, qa, qb, hle, hle', V_works22]; done) | fail) ?_) | refine W_skip ?_ | refine W_bl (c := .seq _ _) ?_ | refine W_bl (c := .region _ _) ?_ | refine W_bl (c := .cond _ _ _) ?_ | refine W_bl (c := .block _ _) ?_ | refine W_rt ?_ | refine W_ex ?_ | refine W_end ?_ | refine W_tail (a := .region _ _) ?_ | refine W_tail (a := .cond _ _ _) ?_ | refine W_tail (a := .ret) ?_ | refine W_tail (a := .exit _) ?_ | refine W_tail (a := .block _ _) ?_ | refine QB_normal ?_ | refine QB_exit ?_ | refine QB_ret ?_ | refine QB_out (by decide) ?_ | refine QL_next ?_ | refine QL_exit ?_ | refine QL_ret ?_ | refine QL_out (by decide) ?_ | (show Fin _ _ .ret _; exact Fin_ret (by first | (simp [c5]; done) | (simp [c5]; with_reducible rfl))) | (show Fin _ _ .normal _; exact Fin_end (by first | (simp [c5]; done) | (simp [c5]; with_reducible rfl))))
          · repeat (first | refine W_assoc ?_ | (show W _ (.seq (.region _ _) _) _ _; refine W_reg (by simp; with_reducible rfl) ?_) | (show R _ _ _ (_ :: _) _ _ _ _; refine R_op (by simp (maxSteps := 2000000) [h1, h1', f1, he, va, vb, ya, yb, pa, qa, qb, hle, hle', V_works22]; with_reducible rfl) ?_) | (show R _ _ _ [] _ _ _ _; refine R_nil (by simp; with_reducible rfl) ?_) | (show W _ (.seq (.cond _ _ _) _) _ _; first | refine W_ct (by first | (simp [h1, h1', f1, he, va, vb, ya, yb, pa, qa, qb, hle, hle', V_works22]; done) | fail) ?_ | refine W_cf (by first | (simp [h1, h1', f1, he, va, vb, ya, yb, pa, qa, qb, hle, hle', V_works22]; done) | fail) ?_) | refine W_skip ?_ | refine W_bl (c := .seq _ _) ?_ | refine W_bl (c := .region _ _) ?_ | refine W_bl (c := .cond _ _ _) ?_ | refine W_bl (c := .block _ _) ?_ | refine W_rt ?_ | refine W_ex ?_ | refine W_end ?_ | refine W_tail (a := .region _ _) ?_ | refine W_tail (a := .cond _ _ _) ?_ | refine W_tail (a := .ret) ?_ | refine W_tail (a := .exit _) ?_ | refine W_tail (a := .block _ _) ?_ | refine QB_normal ?_ | refine QB_exit ?_ | refine QB_ret ?_ | refine QB_out (by decide) ?_ | refine QL_next ?_ | refine QL_exit ?_ | refine QL_ret ?_ | refine QL_out (by decide) ?_ | (show Fin _ _ .ret _; exact Fin_ret (by first | (simp [c5]; done) | (simp [c5]; with_reducible rfl))) | (show Fin _ _ .normal _; exact Fin_end (by first | (simp [c5]; done) | (simp [c5]; with_reducible rfl))))

end Go.Proofs.Ytnobgooojbppbac.Oct
