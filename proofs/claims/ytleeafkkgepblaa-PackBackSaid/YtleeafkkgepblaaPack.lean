/- Packets: checks, and what is put. -/
import Derived.Test.YtleeafkkgepblaaPackAux
set_option linter.all false
set_option linter.unusedSimpArgs false
set_option maxRecDepth 100000
set_option maxHeartbeats 8000000
namespace Go.Proofs.Ytleeafkkgepblaa.Oct
open Go Go.RowKit Go.Proofs.Ytleeafkkgepblaa.Lift Go.Proofs.Ytleeafkkgepblaa.TPB Go.Proofs.Ytleeafkkgepblaa.Base Go.Proofs.Ytleeafkkgepblaa Go.Proofs.Ytleeafkkgepblaa.CrcC

@[simp] def pk (p : Pk) : List AV := [.int .i64 p.kind, .int .i64 p.frm, .int .i64 p.to, .int .i64 p.inc, .int .i64 p.peer, .int .i64 p.seq, .str (bs p.body)]

theorem V_hasPeer (k : Int) : FV (F T) 23 [.int .i64 k] = some (.bool (hP k)) := by
  by_cases h1 : 1 ≤ k
  · by_cases h2 : k ≤ 3
    · rw [show hP k = true by unfold hP; simp; omega]
      refine FV_W T23 (r := ?r1) (W_fin (ex := .ret) (by simp [c23, c23_b, h1, h2]; with_reducible rfl) (by simp) (by first | (simp [c23]; done) | (simp [c23]; with_reducible rfl))) (by simp)
    · rw [show hP k = false by unfold hP; simp; omega]
      refine FV_W T23 (r := ?r2) (W_fin (ex := .ret) (by simp [c23, c23_b, h1, h2]; with_reducible rfl) (by simp) (by first | (simp [c23]; done) | (simp [c23]; with_reducible rfl))) (by simp)
  · rw [show hP k = false by unfold hP; simp; omega]
    refine FV_W T23 (r := ?r3) (W_fin (ex := .ret) (by simp [c23, c23_b, h1]; with_reducible rfl) (by simp) (by first | (simp [c23]; done) | (simp [c23]; with_reducible rfl))) (by simp)

theorem V_hasSeq (k : Int) : FV (F T) 24 [.int .i64 k] = some (.bool (hS k)) := by
  by_cases h1 : k = 1
  · subst h1
    rw [show hS 1 = true from rfl]
    refine FV_W T24 (r := ?r4) (W_fin (ex := .ret) (by simp [c24, c24_b]; with_reducible rfl) (by simp) (by first | (simp [c24]; done) | (simp [c24]; with_reducible rfl))) (by simp)
  · by_cases h2 : k = 2
    · subst h2
      rw [show hS 2 = true from rfl]
      refine FV_W T24 (r := ?r5) (W_fin (ex := .ret) (by simp [c24, c24_b]; with_reducible rfl) (by simp) (by first | (simp [c24]; done) | (simp [c24]; with_reducible rfl))) (by simp)
    · rw [show hS k = false by unfold hS; simp; omega]
      refine FV_W T24 (r := ?r6) (W_fin (ex := .ret) (by simp [c24, c24_b, h1, h2]; with_reducible rfl) (by simp) (by first | (simp [c24]; done) | (simp [c24]; with_reducible rfl))) (by simp)

theorem V_hasBody (k : Int) : FV (F T) 25 [.int .i64 k] = some (.bool (hB k)) := by
  by_cases h1 : k = 1
  · subst h1
    rw [show hB 1 = true from rfl]
    refine FV_W T25 (r := ?r7) (W_fin (ex := .ret) (by simp [c25, c25_b]; with_reducible rfl) (by simp) (by first | (simp [c25]; done) | (simp [c25]; with_reducible rfl))) (by simp)
  · by_cases h2 : k = 4
    · subst h2
      rw [show hB 4 = true from rfl]
      refine FV_W T25 (r := ?r8) (W_fin (ex := .ret) (by simp [c25, c25_b]; with_reducible rfl) (by simp) (by first | (simp [c25]; done) | (simp [c25]; with_reducible rfl))) (by simp)
    · rw [show hB k = false by unfold hB; simp; omega]
      refine FV_W T25 (r := ?r9) (W_fin (ex := .ret) (by simp [c25, c25_b, h1, h2]; with_reducible rfl) (by simp) (by first | (simp [c25]; done) | (simp [c25]; with_reducible rfl))) (by simp)

def isN (n : Int) : Bool := decide (0 ≤ n) && decide (n ≤ 71)
theorem V_node (n : Int) : FV (F T) 31 [.int .i64 n] = some (.bool (isN n)) := by
  by_cases h1 : 0 ≤ n
  · by_cases h2 : n < 72
    · rw [show isN n = true by unfold isN; simp; omega]
      refine FV_W T31 (r := ?r10) (W_fin (ex := .ret) (by simp [c31, c31_b, h1, h2]; with_reducible rfl) (by simp) (by first | (simp [c31]; done) | (simp [c31]; with_reducible rfl))) (by simp)
    · rw [show isN n = false by unfold isN; simp; omega]
      refine FV_W T31 (r := ?r11) (W_fin (ex := .ret) (by simp [c31, c31_b, h1, h2]; with_reducible rfl) (by simp) (by first | (simp [c31]; done) | (simp [c31]; with_reducible rfl))) (by simp)
  · rw [show isN n = false by unfold isN; simp; omega]
    refine FV_W T31 (r := ?r12) (W_fin (ex := .ret) (by simp [c31, c31_b, h1]; with_reducible rfl) (by simp) (by first | (simp [c31]; done) | (simp [c31]; with_reducible rfl))) (by simp)

def numN (h : Bool) (n : Int) : Bool := !h || (decide (1 ≤ n) && decide (n ≤ 72057594037927935))
theorem V_number (h : Bool) (n : Int) : FV (F T) 33 [.bool h, .int .i64 n] = some (.bool (numN h n)) := by
  cases h with
  | false =>
    rw [show numN false n = true from rfl]
    refine FV_W T33 (r := ?r13) (W_fin (ex := .ret) (by simp [c33, c33_b]; with_reducible rfl) (by simp) (by first | (simp [c33]; done) | (simp [c33]; with_reducible rfl))) (by simp)
  | true =>
    by_cases h1 : 1 ≤ n
    · by_cases h2 : n ≤ 72057594037927935
      · rw [show numN true n = true by unfold numN; simp; omega]
        refine FV_W T33 (r := ?r14) (W_fin (ex := .ret) (by simp [c33, c33_b, h1, h2]; with_reducible rfl) (by simp) (by first | (simp [c33]; done) | (simp [c33]; with_reducible rfl))) (by simp)
      · rw [show numN true n = false by unfold numN; simp; omega]
        refine FV_W T33 (r := ?r15) (W_fin (ex := .ret) (by simp [c33, c33_b, h1, h2]; with_reducible rfl) (by simp) (by first | (simp [c33]; done) | (simp [c33]; with_reducible rfl))) (by simp)
    · rw [show numN true n = false by unfold numN; simp; omega]
      refine FV_W T33 (r := ?r16) (W_fin (ex := .ret) (by simp [c33, c33_b, h1]; with_reducible rfl) (by simp) (by first | (simp [c33]; done) | (simp [c33]; with_reducible rfl))) (by simp)

def onlyP (p : Pk) : Pk := ⟨p.kind, p.frm, p.to, p.inc, if hP p.kind = true then p.peer else 0, if hS p.kind = true then p.seq else 0, if hB p.kind = true then p.body else []⟩

theorem V_only (p : Pk) : FV (F T) 32 [.agg (pk p)] = some (.agg (pk (onlyP p))) := by
  obtain ⟨k, f, t, i, pe, se, b⟩ := p
  have v1 := V_hasPeer k
  have v2 := V_hasSeq k
  have v3 := V_hasBody k
  unfold onlyP
  simp only [pk]
  generalize hP k = h1 at *
  generalize hS k = h2 at *
  generalize hB k = h3 at *
  have key : ∀ a, F T 32 [.agg [.int .i64 k, .int .i64 f, .int .i64 t, .int .i64 i, .int .i64 pe, .int .i64 se, .str (bs b)]] [] = some (.agg a, []) → (a.map (clo [] 503 (zipFrom 0 []))) = a → FV (F T) 32 [.agg [.int .i64 k, .int .i64 f, .int .i64 t, .int .i64 i, .int .i64 pe, .int .i64 se, .str (bs b)]] = some (.agg a) := fun a h h' => by
    rw [FV_of h]
    simp only [clo]
    rw [h']
  refine key _ (F_W T32 ?_) (by simp)
  simp only [c32, c32_b, Lift.start]
  cases h1 <;> cases h2 <;> cases h3
  all_goals
    simp only [if_true, Bool.false_eq_true, if_false]
    repeat (first | refine W_assoc ?_ | (show W _ (.seq (.region _ _) _) _ _; refine W_reg (by simp; with_reducible rfl) ?_) | (show R _ _ _ (_ :: _) _ _ _ _; refine R_op (by simp (maxSteps := 2000000) [v1, v2, v3]; with_reducible rfl) ?_) | (show R _ _ _ [] _ _ _ _; refine R_nil (by simp; with_reducible rfl) ?_) | (show W _ (.seq (.cond _ _ _) _) _ _; first | refine W_ct (by first | (simp [v1, v2, v3]; done) | fail) ?_ | refine W_cf (by first | (simp [v1, v2, v3]; done) | fail) ?_) | refine W_skip ?_ | refine W_bl (c := .seq _ _) ?_ | refine W_bl (c := .region _ _) ?_ | refine W_bl (c := .cond _ _ _) ?_ | refine W_bl (c := .block _ _) ?_ | refine W_rt ?_ | refine W_ex ?_ | refine W_end ?_ | refine W_tail (a := .region _ _) ?_ | refine W_tail (a := .cond _ _ _) ?_ | refine W_tail (a := .ret) ?_ | refine W_tail (a := .exit _) ?_ | refine W_tail (a := .block _ _) ?_ | refine QB_normal ?_ | refine QB_exit ?_ | refine QB_ret ?_ | refine QB_out (by decide) ?_ | refine QL_next ?_ | refine QL_exit ?_ | refine QL_ret ?_ | refine QL_out (by decide) ?_ | (show Fin _ _ .ret _; exact Fin_ret (by first | (simp [c32, bs0]; done) | (simp [c32, bs0]; with_reducible rfl))) | (show Fin _ _ .normal _; exact Fin_end (by first | (simp [c32, bs0]; done) | (simp [c32, bs0]; with_reducible rfl))))

def bE (p : Pk) : Bool := (hP p.kind || decide (p.peer = 0)) && ((hS p.kind || decide (p.seq = 0)) && (hB p.kind || decide (p.body = [])))
theorem eq_only (p : Pk) : eqCs [0, 0, 0, 0, 0, 0, 2] (pk p) (pk (onlyP p)) = some (bE p) := by
  obtain ⟨k, f, t, i, pe, se, b⟩ := p
  unfold bE onlyP
  simp only [pk]
  generalize hP k = h1
  generalize hS k = h2
  generalize hB k = h3
  have hb : decide (bs b = bs []) = decide (b = []) := by
    rw [decide_eq_decide, bs0, bs_eq_empty]
  have hz : ∀ x : Int, (x == 0) = decide (x = 0) := fun x => by rw [Bool.eq_iff_iff]; simp
  cases h1 <;> cases h2 <;> cases h3 <;> simp [eqCs, hb, hz]

theorem chkP_eq (p : Pk) : chkP p = (decide (1 ≤ p.kind) && (decide (p.kind ≤ 4) && (isN p.frm && (isN p.to && (!decide (p.frm = p.to) && (bE p && (!(hB p.kind && decide (p.body = [])) && (numN true p.inc && (numN (hP p.kind) p.peer && (numN (hS p.kind) p.seq && decide (p.body.length ≤ 32))))))))))) := by
  obtain ⟨k, f, t, i, pe, se, b⟩ := p
  unfold chkP bE isN numN inF
  simp only []
  have hb : decide (0 < b.length) = !decide (b = []) := by
    cases b with
    | nil => rfl
    | cons a l => simp
  rw [hb]
  generalize hP k = h1
  generalize hS k = h2
  generalize hB k = h3
  generalize decide (b = []) = x1
  generalize decide (b.length ≤ 32) = x2
  generalize decide (pe = 0) = x3
  generalize decide (se = 0) = x4
  generalize decide (f = t) = x5
  generalize decide (1 ≤ pe) = x6
  generalize decide (1 ≤ se) = x7
  generalize decide (pe ≤ 72057594037927935) = x8
  generalize decide (se ≤ 72057594037927935) = x9
  generalize decide (1 ≤ i) = x10
  generalize decide (i ≤ 72057594037927935) = x11
  generalize decide (1 ≤ k) = x12
  generalize decide (k ≤ 4) = x13
  generalize decide (0 ≤ f) = x14
  generalize decide (f ≤ 71) = x15
  generalize decide (0 ≤ t) = x16
  generalize decide (t ≤ 71) = x17
  cases x12 <;> cases x13 <;> cases x14 <;> cases x15 <;> cases x16 <;> cases x17 <;> cases x5 <;> cases x10 <;> cases x11 <;> cases x2 <;> simp
  cases h1 <;> cases h2 <;> cases h3 <;> cases x1 <;> cases x3 <;> cases x4 <;> simp

theorem V_PCheck (p : Pk) : FV (F T) 8 [.agg (pk p)] = some (.bool (chkP p)) := by
  have vo := V_only p
  have eo := eq_only p
  rw [chkP_eq]
  obtain ⟨k, f, t, i, pe, se, b⟩ := p
  have v1 := V_hasPeer k
  have v2 := V_hasSeq k
  have v3 := V_hasBody k
  have n1 := V_node f
  have n2 := V_node t
  have m1 := V_number true i
  have m2 := V_number (hP k) pe
  have m3 := V_number (hS k) se
  have ql : decide ((b.length : Int) ≤ 32) = decide (b.length ≤ 32) := by rw [decide_eq_decide]; omega
  have key : ∀ a, F T 8 [.agg (pk ⟨k, f, t, i, pe, se, b⟩)] [] = some (.bool a, []) → FV (F T) 8 [.agg (pk ⟨k, f, t, i, pe, se, b⟩)] = some (.bool a) := fun a h => by simpa using FV_of h
  refine key _ (F_W T8 ?_)
  simp only [c8, c8_b, Lift.start]
  simp only [pk] at vo eo ⊢
  generalize bE ⟨k, f, t, i, pe, se, b⟩ = xe at *
  generalize hP k = h1 at *
  generalize hS k = h2 at *
  generalize hB k = h3 at *
  generalize onlyP ⟨k, f, t, i, pe, se, b⟩ = o at *
  generalize isN f = xf at *
  generalize isN t = xt at *
  generalize numN true i = y1 at *
  generalize numN h1 pe = y2 at *
  generalize numN h2 se = y3 at *
  by_cases a1 : k < 1
  · have a1' : ¬ 1 ≤ k := by omega
    repeat (first | refine W_assoc ?_ | (show W _ (.seq (.region _ _) _) _ _; refine W_reg (by simp; with_reducible rfl) ?_) | (show R _ _ _ (_ :: _) _ _ _ _; refine R_op (by simp (maxSteps := 2000000) [a1]; with_reducible rfl) ?_) | (show R _ _ _ [] _ _ _ _; refine R_nil (by simp; with_reducible rfl) ?_) | (show W _ (.seq (.cond _ _ _) _) _ _; first | refine W_ct (by first | (simp [a1]; done) | fail) ?_ | refine W_cf (by first | (simp [a1]; done) | fail) ?_) | refine W_skip ?_ | refine W_bl (c := .seq _ _) ?_ | refine W_bl (c := .region _ _) ?_ | refine W_bl (c := .cond _ _ _) ?_ | refine W_bl (c := .block _ _) ?_ | refine W_rt ?_ | refine W_ex ?_ | refine W_end ?_ | refine W_tail (a := .region _ _) ?_ | refine W_tail (a := .cond _ _ _) ?_ | refine W_tail (a := .ret) ?_ | refine W_tail (a := .exit _) ?_ | refine W_tail (a := .block _ _) ?_ | refine QB_normal ?_ | refine QB_exit ?_ | refine QB_ret ?_ | refine QB_out (by decide) ?_ | refine QL_next ?_ | refine QL_exit ?_ | refine QL_ret ?_ | refine QL_out (by decide) ?_ | (show Fin _ _ .ret _; exact Fin_ret (by first | (simp [c8, a1']; done) | (simp [c8, a1']; with_reducible rfl))) | (show Fin _ _ .normal _; exact Fin_end (by first | (simp [c8, a1']; done) | (simp [c8, a1']; with_reducible rfl))))
  have a1' : 1 ≤ k := by omega
  by_cases a2 : 4 < k
  · have a2' : ¬ k ≤ 4 := by omega
    repeat (first | refine W_assoc ?_ | (show W _ (.seq (.region _ _) _) _ _; refine W_reg (by simp; with_reducible rfl) ?_) | (show R _ _ _ (_ :: _) _ _ _ _; refine R_op (by simp (maxSteps := 2000000) [a1, a2]; with_reducible rfl) ?_) | (show R _ _ _ [] _ _ _ _; refine R_nil (by simp; with_reducible rfl) ?_) | (show W _ (.seq (.cond _ _ _) _) _ _; first | refine W_ct (by first | (simp [a1, a2]; done) | fail) ?_ | refine W_cf (by first | (simp [a1, a2]; done) | fail) ?_) | refine W_skip ?_ | refine W_bl (c := .seq _ _) ?_ | refine W_bl (c := .region _ _) ?_ | refine W_bl (c := .cond _ _ _) ?_ | refine W_bl (c := .block _ _) ?_ | refine W_rt ?_ | refine W_ex ?_ | refine W_end ?_ | refine W_tail (a := .region _ _) ?_ | refine W_tail (a := .cond _ _ _) ?_ | refine W_tail (a := .ret) ?_ | refine W_tail (a := .exit _) ?_ | refine W_tail (a := .block _ _) ?_ | refine QB_normal ?_ | refine QB_exit ?_ | refine QB_ret ?_ | refine QB_out (by decide) ?_ | refine QL_next ?_ | refine QL_exit ?_ | refine QL_ret ?_ | refine QL_out (by decide) ?_ | (show Fin _ _ .ret _; exact Fin_ret (by first | (simp [c8, a1', a2']; done) | (simp [c8, a1', a2']; with_reducible rfl))) | (show Fin _ _ .normal _; exact Fin_end (by first | (simp [c8, a1', a2']; done) | (simp [c8, a1', a2']; with_reducible rfl))))
  have a2' : k ≤ 4 := by omega
  cases xf with
  | false => repeat (first | refine W_assoc ?_ | (show W _ (.seq (.region _ _) _) _ _; refine W_reg (by simp; with_reducible rfl) ?_) | (show R _ _ _ (_ :: _) _ _ _ _; refine R_op (by simp (maxSteps := 2000000) [a1, a2, n1]; with_reducible rfl) ?_) | (show R _ _ _ [] _ _ _ _; refine R_nil (by simp; with_reducible rfl) ?_) | (show W _ (.seq (.cond _ _ _) _) _ _; first | refine W_ct (by first | (simp [a1, a2, n1]; done) | fail) ?_ | refine W_cf (by first | (simp [a1, a2, n1]; done) | fail) ?_) | refine W_skip ?_ | refine W_bl (c := .seq _ _) ?_ | refine W_bl (c := .region _ _) ?_ | refine W_bl (c := .cond _ _ _) ?_ | refine W_bl (c := .block _ _) ?_ | refine W_rt ?_ | refine W_ex ?_ | refine W_end ?_ | refine W_tail (a := .region _ _) ?_ | refine W_tail (a := .cond _ _ _) ?_ | refine W_tail (a := .ret) ?_ | refine W_tail (a := .exit _) ?_ | refine W_tail (a := .block _ _) ?_ | refine QB_normal ?_ | refine QB_exit ?_ | refine QB_ret ?_ | refine QB_out (by decide) ?_ | refine QL_next ?_ | refine QL_exit ?_ | refine QL_ret ?_ | refine QL_out (by decide) ?_ | (show Fin _ _ .ret _; exact Fin_ret (by first | (simp [c8]; done) | (simp [c8]; with_reducible rfl))) | (show Fin _ _ .normal _; exact Fin_end (by first | (simp [c8]; done) | (simp [c8]; with_reducible rfl))))
  | true =>
    cases xt with
    | false => repeat (first | refine W_assoc ?_ | (show W _ (.seq (.region _ _) _) _ _; refine W_reg (by simp; with_reducible rfl) ?_) | (show R _ _ _ (_ :: _) _ _ _ _; refine R_op (by simp (maxSteps := 2000000) [a1, a2, n1, n2]; with_reducible rfl) ?_) | (show R _ _ _ [] _ _ _ _; refine R_nil (by simp; with_reducible rfl) ?_) | (show W _ (.seq (.cond _ _ _) _) _ _; first | refine W_ct (by first | (simp [a1, a2, n1, n2]; done) | fail) ?_ | refine W_cf (by first | (simp [a1, a2, n1, n2]; done) | fail) ?_) | refine W_skip ?_ | refine W_bl (c := .seq _ _) ?_ | refine W_bl (c := .region _ _) ?_ | refine W_bl (c := .cond _ _ _) ?_ | refine W_bl (c := .block _ _) ?_ | refine W_rt ?_ | refine W_ex ?_ | refine W_end ?_ | refine W_tail (a := .region _ _) ?_ | refine W_tail (a := .cond _ _ _) ?_ | refine W_tail (a := .ret) ?_ | refine W_tail (a := .exit _) ?_ | refine W_tail (a := .block _ _) ?_ | refine QB_normal ?_ | refine QB_exit ?_ | refine QB_ret ?_ | refine QB_out (by decide) ?_ | refine QL_next ?_ | refine QL_exit ?_ | refine QL_ret ?_ | refine QL_out (by decide) ?_ | (show Fin _ _ .ret _; exact Fin_ret (by first | (simp [c8]; done) | (simp [c8]; with_reducible rfl))) | (show Fin _ _ .normal _; exact Fin_end (by first | (simp [c8]; done) | (simp [c8]; with_reducible rfl))))
    | true =>
      by_cases a3 : f = t
      · repeat (first | refine W_assoc ?_ | (show W _ (.seq (.region _ _) _) _ _; refine W_reg (by simp; with_reducible rfl) ?_) | (show R _ _ _ (_ :: _) _ _ _ _; refine R_op (by simp (maxSteps := 2000000) [a1, a2, n1, n2, a3]; with_reducible rfl) ?_) | (show R _ _ _ [] _ _ _ _; refine R_nil (by simp; with_reducible rfl) ?_) | (show W _ (.seq (.cond _ _ _) _) _ _; first | refine W_ct (by first | (simp [a1, a2, n1, n2, a3]; done) | fail) ?_ | refine W_cf (by first | (simp [a1, a2, n1, n2, a3]; done) | fail) ?_) | refine W_skip ?_ | refine W_bl (c := .seq _ _) ?_ | refine W_bl (c := .region _ _) ?_ | refine W_bl (c := .cond _ _ _) ?_ | refine W_bl (c := .block _ _) ?_ | refine W_rt ?_ | refine W_ex ?_ | refine W_end ?_ | refine W_tail (a := .region _ _) ?_ | refine W_tail (a := .cond _ _ _) ?_ | refine W_tail (a := .ret) ?_ | refine W_tail (a := .exit _) ?_ | refine W_tail (a := .block _ _) ?_ | refine QB_normal ?_ | refine QB_exit ?_ | refine QB_ret ?_ | refine QB_out (by decide) ?_ | refine QL_next ?_ | refine QL_exit ?_ | refine QL_ret ?_ | refine QL_out (by decide) ?_ | (show Fin _ _ .ret _; exact Fin_ret (by first | (simp [c8, a3]; done) | (simp [c8, a3]; with_reducible rfl))) | (show Fin _ _ .normal _; exact Fin_end (by first | (simp [c8, a3]; done) | (simp [c8, a3]; with_reducible rfl))))
      · cases xe with
        | false => repeat (first | refine W_assoc ?_ | (show W _ (.seq (.region _ _) _) _ _; refine W_reg (by simp; with_reducible rfl) ?_) | (show R _ _ _ (_ :: _) _ _ _ _; refine R_op (by simp (maxSteps := 2000000) [a1, a2, n1, n2, a3, vo, eo]; with_reducible rfl) ?_) | (show R _ _ _ [] _ _ _ _; refine R_nil (by simp; with_reducible rfl) ?_) | (show W _ (.seq (.cond _ _ _) _) _ _; first | refine W_ct (by first | (simp [a1, a2, n1, n2, a3, vo, eo]; done) | fail) ?_ | refine W_cf (by first | (simp [a1, a2, n1, n2, a3, vo, eo]; done) | fail) ?_) | refine W_skip ?_ | refine W_bl (c := .seq _ _) ?_ | refine W_bl (c := .region _ _) ?_ | refine W_bl (c := .cond _ _ _) ?_ | refine W_bl (c := .block _ _) ?_ | refine W_rt ?_ | refine W_ex ?_ | refine W_end ?_ | refine W_tail (a := .region _ _) ?_ | refine W_tail (a := .cond _ _ _) ?_ | refine W_tail (a := .ret) ?_ | refine W_tail (a := .exit _) ?_ | refine W_tail (a := .block _ _) ?_ | refine QB_normal ?_ | refine QB_exit ?_ | refine QB_ret ?_ | refine QB_out (by decide) ?_ | refine QL_next ?_ | refine QL_exit ?_ | refine QL_ret ?_ | refine QL_out (by decide) ?_ | (show Fin _ _ .ret _; exact Fin_ret (by first | (simp [c8, a3]; done) | (simp [c8, a3]; with_reducible rfl))) | (show Fin _ _ .normal _; exact Fin_end (by first | (simp [c8, a3]; done) | (simp [c8, a3]; with_reducible rfl))))
        | true =>
          cases h3 with
          | true =>
            by_cases a4 : b = []
            · subst a4
              repeat (first | refine W_assoc ?_ | (show W _ (.seq (.region _ _) _) _ _; refine W_reg (by simp; with_reducible rfl) ?_) | (show R _ _ _ (_ :: _) _ _ _ _; refine R_op (by simp (maxSteps := 2000000) [a1, a2, n1, n2, a3, vo, eo, v3]; with_reducible rfl) ?_) | (show R _ _ _ [] _ _ _ _; refine R_nil (by simp; with_reducible rfl) ?_) | (show W _ (.seq (.cond _ _ _) _) _ _; first | refine W_ct (by first | (simp [a1, a2, n1, n2, a3, vo, eo, v3]; done) | fail) ?_ | refine W_cf (by first | (simp [a1, a2, n1, n2, a3, vo, eo, v3]; done) | fail) ?_) | refine W_skip ?_ | refine W_bl (c := .seq _ _) ?_ | refine W_bl (c := .region _ _) ?_ | refine W_bl (c := .cond _ _ _) ?_ | refine W_bl (c := .block _ _) ?_ | refine W_rt ?_ | refine W_ex ?_ | refine W_end ?_ | refine W_tail (a := .region _ _) ?_ | refine W_tail (a := .cond _ _ _) ?_ | refine W_tail (a := .ret) ?_ | refine W_tail (a := .exit _) ?_ | refine W_tail (a := .block _ _) ?_ | refine QB_normal ?_ | refine QB_exit ?_ | refine QB_ret ?_ | refine QB_out (by decide) ?_ | refine QL_next ?_ | refine QL_exit ?_ | refine QL_ret ?_ | refine QL_out (by decide) ?_ | (show Fin _ _ .ret _; exact Fin_ret (by first | (simp [c8, a3]; done) | (simp [c8, a3]; with_reducible rfl))) | (show Fin _ _ .normal _; exact Fin_end (by first | (simp [c8, a3]; done) | (simp [c8, a3]; with_reducible rfl))))
            ·
              cases y1 with
              | false => 
                    repeat (first | refine W_assoc ?_ | (show W _ (.seq (.region _ _) _) _ _; refine W_reg (by simp; with_reducible rfl) ?_) | (show R _ _ _ (_ :: _) _ _ _ _; refine R_op (by simp (maxSteps := 2000000) [a1, a2, n1, n2, a3, vo, eo, v1, v2, v3, a4, m1, m2, m3, ql]; with_reducible rfl) ?_) | (show R _ _ _ [] _ _ _ _; refine R_nil (by simp; with_reducible rfl) ?_) | (show W _ (.seq (.cond _ _ _) _) _ _; first | refine W_ct (by first | (simp [a1, a2, n1, n2, a3, vo, eo, v1, v2, v3, a4, m1, m2, m3, ql]; done) | fail) ?_ | refine W_cf (by first | (simp [a1, a2, n1, n2, a3, vo, eo, v1, v2, v3, a4, m1, m2, m3, ql]; done) | fail) ?_) | refine W_skip ?_ | refine W_bl (c := .seq _ _) ?_ | refine W_bl (c := .region _ _) ?_ | refine W_bl (c := .cond _ _ _) ?_ | refine W_bl (c := .block _ _) ?_ | refine W_rt ?_ | refine W_ex ?_ | refine W_end ?_ | refine W_tail (a := .region _ _) ?_ | refine W_tail (a := .cond _ _ _) ?_ | refine W_tail (a := .ret) ?_ | refine W_tail (a := .exit _) ?_ | refine W_tail (a := .block _ _) ?_ | refine QB_normal ?_ | refine QB_exit ?_ | refine QB_ret ?_ | refine QB_out (by decide) ?_ | refine QL_next ?_ | refine QL_exit ?_ | refine QL_ret ?_ | refine QL_out (by decide) ?_ | (show Fin _ _ .ret _; exact Fin_ret (by first | (simp [c8, a1', a2', a3, a4, ql]; done) | (simp [c8, a1', a2', a3, a4, ql]; with_reducible rfl))) | (show Fin _ _ .normal _; exact Fin_end (by first | (simp [c8, a1', a2', a3, a4, ql]; done) | (simp [c8, a1', a2', a3, a4, ql]; with_reducible rfl))))
              | true =>
                cases y2 with
                | false => 
                    repeat (first | refine W_assoc ?_ | (show W _ (.seq (.region _ _) _) _ _; refine W_reg (by simp; with_reducible rfl) ?_) | (show R _ _ _ (_ :: _) _ _ _ _; refine R_op (by simp (maxSteps := 2000000) [a1, a2, n1, n2, a3, vo, eo, v1, v2, v3, a4, m1, m2, m3, ql]; with_reducible rfl) ?_) | (show R _ _ _ [] _ _ _ _; refine R_nil (by simp; with_reducible rfl) ?_) | (show W _ (.seq (.cond _ _ _) _) _ _; first | refine W_ct (by first | (simp [a1, a2, n1, n2, a3, vo, eo, v1, v2, v3, a4, m1, m2, m3, ql]; done) | fail) ?_ | refine W_cf (by first | (simp [a1, a2, n1, n2, a3, vo, eo, v1, v2, v3, a4, m1, m2, m3, ql]; done) | fail) ?_) | refine W_skip ?_ | refine W_bl (c := .seq _ _) ?_ | refine W_bl (c := .region _ _) ?_ | refine W_bl (c := .cond _ _ _) ?_ | refine W_bl (c := .block _ _) ?_ | refine W_rt ?_ | refine W_ex ?_ | refine W_end ?_ | refine W_tail (a := .region _ _) ?_ | refine W_tail (a := .cond _ _ _) ?_ | refine W_tail (a := .ret) ?_ | refine W_tail (a := .exit _) ?_ | refine W_tail (a := .block _ _) ?_ | refine QB_normal ?_ | refine QB_exit ?_ | refine QB_ret ?_ | refine QB_out (by decide) ?_ | refine QL_next ?_ | refine QL_exit ?_ | refine QL_ret ?_ | refine QL_out (by decide) ?_ | (show Fin _ _ .ret _; exact Fin_ret (by first | (simp [c8, a1', a2', a3, a4, ql]; done) | (simp [c8, a1', a2', a3, a4, ql]; with_reducible rfl))) | (show Fin _ _ .normal _; exact Fin_end (by first | (simp [c8, a1', a2', a3, a4, ql]; done) | (simp [c8, a1', a2', a3, a4, ql]; with_reducible rfl))))
                | true =>
                  cases y3 with
                  | false => 
                    repeat (first | refine W_assoc ?_ | (show W _ (.seq (.region _ _) _) _ _; refine W_reg (by simp; with_reducible rfl) ?_) | (show R _ _ _ (_ :: _) _ _ _ _; refine R_op (by simp (maxSteps := 2000000) [a1, a2, n1, n2, a3, vo, eo, v1, v2, v3, a4, m1, m2, m3, ql]; with_reducible rfl) ?_) | (show R _ _ _ [] _ _ _ _; refine R_nil (by simp; with_reducible rfl) ?_) | (show W _ (.seq (.cond _ _ _) _) _ _; first | refine W_ct (by first | (simp [a1, a2, n1, n2, a3, vo, eo, v1, v2, v3, a4, m1, m2, m3, ql]; done) | fail) ?_ | refine W_cf (by first | (simp [a1, a2, n1, n2, a3, vo, eo, v1, v2, v3, a4, m1, m2, m3, ql]; done) | fail) ?_) | refine W_skip ?_ | refine W_bl (c := .seq _ _) ?_ | refine W_bl (c := .region _ _) ?_ | refine W_bl (c := .cond _ _ _) ?_ | refine W_bl (c := .block _ _) ?_ | refine W_rt ?_ | refine W_ex ?_ | refine W_end ?_ | refine W_tail (a := .region _ _) ?_ | refine W_tail (a := .cond _ _ _) ?_ | refine W_tail (a := .ret) ?_ | refine W_tail (a := .exit _) ?_ | refine W_tail (a := .block _ _) ?_ | refine QB_normal ?_ | refine QB_exit ?_ | refine QB_ret ?_ | refine QB_out (by decide) ?_ | refine QL_next ?_ | refine QL_exit ?_ | refine QL_ret ?_ | refine QL_out (by decide) ?_ | (show Fin _ _ .ret _; exact Fin_ret (by first | (simp [c8, a1', a2', a3, a4, ql]; done) | (simp [c8, a1', a2', a3, a4, ql]; with_reducible rfl))) | (show Fin _ _ .normal _; exact Fin_end (by first | (simp [c8, a1', a2', a3, a4, ql]; done) | (simp [c8, a1', a2', a3, a4, ql]; with_reducible rfl))))
                  | true => 
                    repeat (first | refine W_assoc ?_ | (show W _ (.seq (.region _ _) _) _ _; refine W_reg (by simp; with_reducible rfl) ?_) | (show R _ _ _ (_ :: _) _ _ _ _; refine R_op (by simp (maxSteps := 2000000) [a1, a2, n1, n2, a3, vo, eo, v1, v2, v3, a4, m1, m2, m3, ql]; with_reducible rfl) ?_) | (show R _ _ _ [] _ _ _ _; refine R_nil (by simp; with_reducible rfl) ?_) | (show W _ (.seq (.cond _ _ _) _) _ _; first | refine W_ct (by first | (simp [a1, a2, n1, n2, a3, vo, eo, v1, v2, v3, a4, m1, m2, m3, ql]; done) | fail) ?_ | refine W_cf (by first | (simp [a1, a2, n1, n2, a3, vo, eo, v1, v2, v3, a4, m1, m2, m3, ql]; done) | fail) ?_) | refine W_skip ?_ | refine W_bl (c := .seq _ _) ?_ | refine W_bl (c := .region _ _) ?_ | refine W_bl (c := .cond _ _ _) ?_ | refine W_bl (c := .block _ _) ?_ | refine W_rt ?_ | refine W_ex ?_ | refine W_end ?_ | refine W_tail (a := .region _ _) ?_ | refine W_tail (a := .cond _ _ _) ?_ | refine W_tail (a := .ret) ?_ | refine W_tail (a := .exit _) ?_ | refine W_tail (a := .block _ _) ?_ | refine QB_normal ?_ | refine QB_exit ?_ | refine QB_ret ?_ | refine QB_out (by decide) ?_ | refine QL_next ?_ | refine QL_exit ?_ | refine QL_ret ?_ | refine QL_out (by decide) ?_ | (show Fin _ _ .ret _; exact Fin_ret (by first | (simp [c8, a1', a2', a3, a4, ql]; done) | (simp [c8, a1', a2', a3, a4, ql]; with_reducible rfl))) | (show Fin _ _ .normal _; exact Fin_end (by first | (simp [c8, a1', a2', a3, a4, ql]; done) | (simp [c8, a1', a2', a3, a4, ql]; with_reducible rfl))))
          | false =>
            cases y1 with
            | false => 
                  repeat (first | refine W_assoc ?_ | (show W _ (.seq (.region _ _) _) _ _; refine W_reg (by simp; with_reducible rfl) ?_) | (show R _ _ _ (_ :: _) _ _ _ _; refine R_op (by simp (maxSteps := 2000000) [a1, a2, n1, n2, a3, vo, eo, v1, v2, v3, m1, m2, m3, ql]; with_reducible rfl) ?_) | (show R _ _ _ [] _ _ _ _; refine R_nil (by simp; with_reducible rfl) ?_) | (show W _ (.seq (.cond _ _ _) _) _ _; first | refine W_ct (by first | (simp [a1, a2, n1, n2, a3, vo, eo, v1, v2, v3, m1, m2, m3, ql]; done) | fail) ?_ | refine W_cf (by first | (simp [a1, a2, n1, n2, a3, vo, eo, v1, v2, v3, m1, m2, m3, ql]; done) | fail) ?_) | refine W_skip ?_ | refine W_bl (c := .seq _ _) ?_ | refine W_bl (c := .region _ _) ?_ | refine W_bl (c := .cond _ _ _) ?_ | refine W_bl (c := .block _ _) ?_ | refine W_rt ?_ | refine W_ex ?_ | refine W_end ?_ | refine W_tail (a := .region _ _) ?_ | refine W_tail (a := .cond _ _ _) ?_ | refine W_tail (a := .ret) ?_ | refine W_tail (a := .exit _) ?_ | refine W_tail (a := .block _ _) ?_ | refine QB_normal ?_ | refine QB_exit ?_ | refine QB_ret ?_ | refine QB_out (by decide) ?_ | refine QL_next ?_ | refine QL_exit ?_ | refine QL_ret ?_ | refine QL_out (by decide) ?_ | (show Fin _ _ .ret _; exact Fin_ret (by first | (simp [c8, a1', a2', a3, ql]; done) | (simp [c8, a1', a2', a3, ql]; with_reducible rfl))) | (show Fin _ _ .normal _; exact Fin_end (by first | (simp [c8, a1', a2', a3, ql]; done) | (simp [c8, a1', a2', a3, ql]; with_reducible rfl))))
            | true =>
              cases y2 with
              | false => 
                  repeat (first | refine W_assoc ?_ | (show W _ (.seq (.region _ _) _) _ _; refine W_reg (by simp; with_reducible rfl) ?_) | (show R _ _ _ (_ :: _) _ _ _ _; refine R_op (by simp (maxSteps := 2000000) [a1, a2, n1, n2, a3, vo, eo, v1, v2, v3, m1, m2, m3, ql]; with_reducible rfl) ?_) | (show R _ _ _ [] _ _ _ _; refine R_nil (by simp; with_reducible rfl) ?_) | (show W _ (.seq (.cond _ _ _) _) _ _; first | refine W_ct (by first | (simp [a1, a2, n1, n2, a3, vo, eo, v1, v2, v3, m1, m2, m3, ql]; done) | fail) ?_ | refine W_cf (by first | (simp [a1, a2, n1, n2, a3, vo, eo, v1, v2, v3, m1, m2, m3, ql]; done) | fail) ?_) | refine W_skip ?_ | refine W_bl (c := .seq _ _) ?_ | refine W_bl (c := .region _ _) ?_ | refine W_bl (c := .cond _ _ _) ?_ | refine W_bl (c := .block _ _) ?_ | refine W_rt ?_ | refine W_ex ?_ | refine W_end ?_ | refine W_tail (a := .region _ _) ?_ | refine W_tail (a := .cond _ _ _) ?_ | refine W_tail (a := .ret) ?_ | refine W_tail (a := .exit _) ?_ | refine W_tail (a := .block _ _) ?_ | refine QB_normal ?_ | refine QB_exit ?_ | refine QB_ret ?_ | refine QB_out (by decide) ?_ | refine QL_next ?_ | refine QL_exit ?_ | refine QL_ret ?_ | refine QL_out (by decide) ?_ | (show Fin _ _ .ret _; exact Fin_ret (by first | (simp [c8, a1', a2', a3, ql]; done) | (simp [c8, a1', a2', a3, ql]; with_reducible rfl))) | (show Fin _ _ .normal _; exact Fin_end (by first | (simp [c8, a1', a2', a3, ql]; done) | (simp [c8, a1', a2', a3, ql]; with_reducible rfl))))
              | true =>
                cases y3 with
                | false => 
                  repeat (first | refine W_assoc ?_ | (show W _ (.seq (.region _ _) _) _ _; refine W_reg (by simp; with_reducible rfl) ?_) | (show R _ _ _ (_ :: _) _ _ _ _; refine R_op (by simp (maxSteps := 2000000) [a1, a2, n1, n2, a3, vo, eo, v1, v2, v3, m1, m2, m3, ql]; with_reducible rfl) ?_) | (show R _ _ _ [] _ _ _ _; refine R_nil (by simp; with_reducible rfl) ?_) | (show W _ (.seq (.cond _ _ _) _) _ _; first | refine W_ct (by first | (simp [a1, a2, n1, n2, a3, vo, eo, v1, v2, v3, m1, m2, m3, ql]; done) | fail) ?_ | refine W_cf (by first | (simp [a1, a2, n1, n2, a3, vo, eo, v1, v2, v3, m1, m2, m3, ql]; done) | fail) ?_) | refine W_skip ?_ | refine W_bl (c := .seq _ _) ?_ | refine W_bl (c := .region _ _) ?_ | refine W_bl (c := .cond _ _ _) ?_ | refine W_bl (c := .block _ _) ?_ | refine W_rt ?_ | refine W_ex ?_ | refine W_end ?_ | refine W_tail (a := .region _ _) ?_ | refine W_tail (a := .cond _ _ _) ?_ | refine W_tail (a := .ret) ?_ | refine W_tail (a := .exit _) ?_ | refine W_tail (a := .block _ _) ?_ | refine QB_normal ?_ | refine QB_exit ?_ | refine QB_ret ?_ | refine QB_out (by decide) ?_ | refine QL_next ?_ | refine QL_exit ?_ | refine QL_ret ?_ | refine QL_out (by decide) ?_ | (show Fin _ _ .ret _; exact Fin_ret (by first | (simp [c8, a1', a2', a3, ql]; done) | (simp [c8, a1', a2', a3, ql]; with_reducible rfl))) | (show Fin _ _ .normal _; exact Fin_end (by first | (simp [c8, a1', a2', a3, ql]; done) | (simp [c8, a1', a2', a3, ql]; with_reducible rfl))))
                | true => 
                  repeat (first | refine W_assoc ?_ | (show W _ (.seq (.region _ _) _) _ _; refine W_reg (by simp; with_reducible rfl) ?_) | (show R _ _ _ (_ :: _) _ _ _ _; refine R_op (by simp (maxSteps := 2000000) [a1, a2, n1, n2, a3, vo, eo, v1, v2, v3, m1, m2, m3, ql]; with_reducible rfl) ?_) | (show R _ _ _ [] _ _ _ _; refine R_nil (by simp; with_reducible rfl) ?_) | (show W _ (.seq (.cond _ _ _) _) _ _; first | refine W_ct (by first | (simp [a1, a2, n1, n2, a3, vo, eo, v1, v2, v3, m1, m2, m3, ql]; done) | fail) ?_ | refine W_cf (by first | (simp [a1, a2, n1, n2, a3, vo, eo, v1, v2, v3, m1, m2, m3, ql]; done) | fail) ?_) | refine W_skip ?_ | refine W_bl (c := .seq _ _) ?_ | refine W_bl (c := .region _ _) ?_ | refine W_bl (c := .cond _ _ _) ?_ | refine W_bl (c := .block _ _) ?_ | refine W_rt ?_ | refine W_ex ?_ | refine W_end ?_ | refine W_tail (a := .region _ _) ?_ | refine W_tail (a := .cond _ _ _) ?_ | refine W_tail (a := .ret) ?_ | refine W_tail (a := .exit _) ?_ | refine W_tail (a := .block _ _) ?_ | refine QB_normal ?_ | refine QB_exit ?_ | refine QB_ret ?_ | refine QB_out (by decide) ?_ | refine QL_next ?_ | refine QL_exit ?_ | refine QL_ret ?_ | refine QL_out (by decide) ?_ | (show Fin _ _ .ret _; exact Fin_ret (by first | (simp [c8, a1', a2', a3, ql]; done) | (simp [c8, a1', a2', a3, ql]; with_reducible rfl))) | (show Fin _ _ .normal _; exact Fin_end (by first | (simp [c8, a1', a2', a3, ql]; done) | (simp [c8, a1', a2', a3, ql]; with_reducible rfl))))

end Go.Proofs.Ytleeafkkgepblaa.Oct
