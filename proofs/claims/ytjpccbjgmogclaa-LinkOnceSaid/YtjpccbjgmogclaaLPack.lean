/- Packets: checks, and what is put. -/
import Derived.Test.YtjpccbjgmogclaaTLK
import Derived.Test.YtjpccbjgmogclaaBase
import Derived.Test.YtjpccbjgmogclaaLPackPure
set_option linter.all false
set_option linter.unusedSimpArgs false
set_option maxRecDepth 100000
set_option maxHeartbeats 8000000
namespace Go.Proofs.Ytjpccbjgmogclaa.Oct
open Go Go.RowKit Go.Proofs.Ytjpccbjgmogclaa.Lift Go.Proofs.Ytjpccbjgmogclaa.TLK Go.Proofs.Ytjpccbjgmogclaa.Base Go.Proofs.Ytjpccbjgmogclaa

@[simp] def pk (p : Pk) : List AV := [.int .i64 p.kind, .int .i64 p.frm, .int .i64 p.to, .int .i64 p.inc, .int .i64 p.peer, .int .i64 p.seq, .str (bs p.body)]

theorem V_hasPeer (k : Int) : FV (F T) 106 [.int .i64 k] = some (.bool (hP k)) := by
  by_cases h1 : 1 ≤ k
  · by_cases h2 : k ≤ 3
    · rw [show hP k = true by unfold hP; simp; omega]
      refine FV_W T106 (r := ?r1) (W_fin (ex := .ret) (by simp [c106, c106_b, h1, h2]; with_reducible rfl) (by simp) (by first | (simp [c106]; done) | (simp [c106]; with_reducible rfl))) (by simp)
    · rw [show hP k = false by unfold hP; simp; omega]
      refine FV_W T106 (r := ?r2) (W_fin (ex := .ret) (by simp [c106, c106_b, h1, h2]; with_reducible rfl) (by simp) (by first | (simp [c106]; done) | (simp [c106]; with_reducible rfl))) (by simp)
  · rw [show hP k = false by unfold hP; simp; omega]
    refine FV_W T106 (r := ?r3) (W_fin (ex := .ret) (by simp [c106, c106_b, h1]; with_reducible rfl) (by simp) (by first | (simp [c106]; done) | (simp [c106]; with_reducible rfl))) (by simp)

theorem V_hasSeq (k : Int) : FV (F T) 107 [.int .i64 k] = some (.bool (hS k)) := by
  by_cases h1 : k = 1
  · subst h1
    rw [show hS 1 = true from rfl]
    refine FV_W T107 (r := ?r4) (W_fin (ex := .ret) (by simp [c107, c107_b]; with_reducible rfl) (by simp) (by first | (simp [c107]; done) | (simp [c107]; with_reducible rfl))) (by simp)
  · by_cases h2 : k = 2
    · subst h2
      rw [show hS 2 = true from rfl]
      refine FV_W T107 (r := ?r5) (W_fin (ex := .ret) (by simp [c107, c107_b]; with_reducible rfl) (by simp) (by first | (simp [c107]; done) | (simp [c107]; with_reducible rfl))) (by simp)
    · rw [show hS k = false by unfold hS; simp; omega]
      refine FV_W T107 (r := ?r6) (W_fin (ex := .ret) (by simp [c107, c107_b, h1, h2]; with_reducible rfl) (by simp) (by first | (simp [c107]; done) | (simp [c107]; with_reducible rfl))) (by simp)

theorem V_hasBody (k : Int) : FV (F T) 104 [.int .i64 k] = some (.bool (hB k)) := by
  by_cases h1 : k = 1
  · subst h1
    rw [show hB 1 = true from rfl]
    refine FV_W T104 (r := ?r7) (W_fin (ex := .ret) (by simp [c104, c104_b]; with_reducible rfl) (by simp) (by first | (simp [c104]; done) | (simp [c104]; with_reducible rfl))) (by simp)
  · by_cases h2 : k = 4
    · subst h2
      rw [show hB 4 = true from rfl]
      refine FV_W T104 (r := ?r8) (W_fin (ex := .ret) (by simp [c104, c104_b]; with_reducible rfl) (by simp) (by first | (simp [c104]; done) | (simp [c104]; with_reducible rfl))) (by simp)
    · rw [show hB k = false by unfold hB; simp; omega]
      refine FV_W T104 (r := ?r9) (W_fin (ex := .ret) (by simp [c104, c104_b, h1, h2]; with_reducible rfl) (by simp) (by first | (simp [c104]; done) | (simp [c104]; with_reducible rfl))) (by simp)

def isN (n : Int) : Bool := decide (0 ≤ n) && decide (n ≤ 71)
theorem V_node (n : Int) : FV (F T) 102 [.int .i64 n] = some (.bool (isN n)) := by
  by_cases h1 : 0 ≤ n
  · by_cases h2 : n < 72
    · rw [show isN n = true by unfold isN; simp; omega]
      refine FV_W T102 (r := ?r10) (W_fin (ex := .ret) (by simp [c102, c102_b, h1, h2]; with_reducible rfl) (by simp) (by first | (simp [c102]; done) | (simp [c102]; with_reducible rfl))) (by simp)
    · rw [show isN n = false by unfold isN; simp; omega]
      refine FV_W T102 (r := ?r11) (W_fin (ex := .ret) (by simp [c102, c102_b, h1, h2]; with_reducible rfl) (by simp) (by first | (simp [c102]; done) | (simp [c102]; with_reducible rfl))) (by simp)
  · rw [show isN n = false by unfold isN; simp; omega]
    refine FV_W T102 (r := ?r12) (W_fin (ex := .ret) (by simp [c102, c102_b, h1]; with_reducible rfl) (by simp) (by first | (simp [c102]; done) | (simp [c102]; with_reducible rfl))) (by simp)

def numN (h : Bool) (n : Int) : Bool := !h || (decide (1 ≤ n) && decide (n ≤ 72057594037927935))
theorem V_number (h : Bool) (n : Int) : FV (F T) 105 [.bool h, .int .i64 n] = some (.bool (numN h n)) := by
  cases h with
  | false =>
    rw [show numN false n = true from rfl]
    refine FV_W T105 (r := ?r13) (W_fin (ex := .ret) (by simp [c105, c105_b]; with_reducible rfl) (by simp) (by first | (simp [c105]; done) | (simp [c105]; with_reducible rfl))) (by simp)
  | true =>
    by_cases h1 : 1 ≤ n
    · by_cases h2 : n ≤ 72057594037927935
      · rw [show numN true n = true by unfold numN; simp; omega]
        refine FV_W T105 (r := ?r14) (W_fin (ex := .ret) (by simp [c105, c105_b, h1, h2]; with_reducible rfl) (by simp) (by first | (simp [c105]; done) | (simp [c105]; with_reducible rfl))) (by simp)
      · rw [show numN true n = false by unfold numN; simp; omega]
        refine FV_W T105 (r := ?r15) (W_fin (ex := .ret) (by simp [c105, c105_b, h1, h2]; with_reducible rfl) (by simp) (by first | (simp [c105]; done) | (simp [c105]; with_reducible rfl))) (by simp)
    · rw [show numN true n = false by unfold numN; simp; omega]
      refine FV_W T105 (r := ?r16) (W_fin (ex := .ret) (by simp [c105, c105_b, h1]; with_reducible rfl) (by simp) (by first | (simp [c105]; done) | (simp [c105]; with_reducible rfl))) (by simp)

theorem V_R23Num (h : Bool) (n : Int) : FV (F T) 77 [.bool h, .int .i64 n] = some (.bool (inF h n 1 72057594037927935)) := by
  unfold inF
  cases h with
  | false =>
    simp only [Bool.false_eq_true, if_false]
    refine FV_W T77 (r := ?r17) (W_fin (ex := .ret) (by simp [c77, c77_b]; with_reducible rfl) (by simp) (by first | (simp [c77]; done) | (simp [c77]; with_reducible rfl))) (by simp)
  | true =>
    simp only [if_true]
    by_cases h1 : 0 < n
    · have h1' : 1 ≤ n := by omega
      rw [show (decide (1 ≤ n) && decide (n ≤ 72057594037927935)) = decide (n ≤ 72057594037927935) by simp [h1']]
      refine FV_W T77 (r := ?r18) (W_fin (ex := .ret) (by simp [c77, c77_b, h1]; with_reducible rfl) (by simp) (by first | (simp [c77]; done) | (simp [c77]; with_reducible rfl))) (by simp)
    · have h1' : ¬ 1 ≤ n := by omega
      rw [show (decide (1 ≤ n) && decide (n ≤ 72057594037927935)) = false by simp [h1']]
      refine FV_W T77 (r := ?r19) (W_fin (ex := .ret) (by simp [c77, c77_b, h1]; with_reducible rfl) (by simp) (by first | (simp [c77]; done) | (simp [c77]; with_reducible rfl))) (by simp)

def onlyP (p : Pk) : Pk := ⟨p.kind, p.frm, p.to, p.inc, if hP p.kind = true then p.peer else 0, if hS p.kind = true then p.seq else 0, if hB p.kind = true then p.body else []⟩

theorem V_only (p : Pk) : FV (F T) 103 [.agg (pk p)] = some (.agg (pk (onlyP p))) := by
  obtain ⟨k, f, t, i, pe, se, b⟩ := p
  have v1 := V_hasPeer k
  have v2 := V_hasSeq k
  have v3 := V_hasBody k
  unfold onlyP
  simp only [pk]
  generalize hP k = h1 at *
  generalize hS k = h2 at *
  generalize hB k = h3 at *
  have key : ∀ a, F T 103 [.agg [.int .i64 k, .int .i64 f, .int .i64 t, .int .i64 i, .int .i64 pe, .int .i64 se, .str (bs b)]] [] = some (.agg a, []) → (a.map (clo [] 503 (zipFrom 0 []))) = a → FV (F T) 103 [.agg [.int .i64 k, .int .i64 f, .int .i64 t, .int .i64 i, .int .i64 pe, .int .i64 se, .str (bs b)]] = some (.agg a) := fun a h h' => by
    rw [FV_of h]
    simp only [clo]
    rw [h']
  refine key _ (F_W T103 ?_) (by simp)
  simp only [c103, c103_b, Lift.start]
  cases h1 <;> cases h2 <;> cases h3
  all_goals
    simp only [if_true, Bool.false_eq_true, if_false]
    repeat (first | refine W_assoc ?_ | (show W _ (.seq (.region _ _) _) _ _; refine W_reg (by simp; with_reducible rfl) ?_) | (show R _ _ _ (_ :: _) _ _ _ _; refine R_op (by simp (maxSteps := 2000000) [v1, v2, v3]; with_reducible rfl) ?_) | (show R _ _ _ [] _ _ _ _; refine R_nil (by simp; with_reducible rfl) ?_) | (show W _ (.seq (.cond _ _ _) _) _ _; first | refine W_ct (by first | (simp [v1, v2, v3]; done) | fail) ?_ | refine W_cf (by first | (simp [v1, v2, v3]; done) | fail) ?_) | refine W_skip ?_ | refine W_bl (c := .seq _ _) ?_ | refine W_bl (c := .region _ _) ?_ | refine W_bl (c := .cond _ _ _) ?_ | refine W_bl (c := .block _ _) ?_ | refine W_rt ?_ | refine W_ex ?_ | refine W_end ?_ | refine W_tail (a := .region _ _) ?_ | refine W_tail (a := .cond _ _ _) ?_ | refine W_tail (a := .ret) ?_ | refine W_tail (a := .exit _) ?_ | refine W_tail (a := .block _ _) ?_ | refine QB_normal ?_ | refine QB_exit ?_ | refine QB_ret ?_ | refine QB_out (by decide) ?_ | refine QL_next ?_ | refine QL_exit ?_ | refine QL_ret ?_ | refine QL_out (by decide) ?_ | (show Fin _ _ .ret _; exact Fin_ret (by first | (simp [c103, bs0]; done) | (simp [c103, bs0]; with_reducible rfl))) | (show Fin _ _ .normal _; exact Fin_end (by first | (simp [c103, bs0]; done) | (simp [c103, bs0]; with_reducible rfl))))

def bE (p : Pk) : Bool := (hP p.kind || decide (p.peer = 0)) && ((hS p.kind || decide (p.seq = 0)) && (hB p.kind || decide (p.body = [])))
theorem eq_only (p : Pk) : eqCs [0, 0, 0, 0, 0, 0, 2] (pk p) (pk (onlyP p)) = some (bE p) := by
  obtain ⟨k, f, t, i, pe, se, b⟩ := p
  unfold bE onlyP
  simp only [pk]
  generalize hP k = h1
  generalize hS k = h2
  generalize hB k = h3
  have hb : decide (bs b = bs []) = decide (b = []) := by
    rw [decide_eq_decide, bs0, bs_eq_empty]
  have hz : ∀ x : Int, (x == 0) = decide (x = 0) := fun x => by rw [Bool.eq_iff_iff]; simp
  cases h1 <;> cases h2 <;> cases h3 <;> simp [eqCs, hb, hz]

theorem chkP_eq (p : Pk) : chkP p = (decide (1 ≤ p.kind) && (decide (p.kind ≤ 4) && (isN p.frm && (isN p.to && (!decide (p.frm = p.to) && (bE p && (!(hB p.kind && decide (p.body = [])) && (numN true p.inc && (numN (hP p.kind) p.peer && (numN (hS p.kind) p.seq && decide (p.body.length ≤ 32))))))))))) := by
  obtain ⟨k, f, t, i, pe, se, b⟩ := p
  unfold chkP bE isN numN inF
  simp only []
  have hb : decide (0 < b.length) = !decide (b = []) := by
    cases b with
    | nil => rfl
    | cons a l => simp
  rw [hb]
  generalize hP k = h1
  generalize hS k = h2
  generalize hB k = h3
  generalize decide (b = []) = x1
  generalize decide (b.length ≤ 32) = x2
  generalize decide (pe = 0) = x3
  generalize decide (se = 0) = x4
  generalize decide (f = t) = x5
  generalize decide (1 ≤ pe) = x6
  generalize decide (1 ≤ se) = x7
  generalize decide (pe ≤ 72057594037927935) = x8
  generalize decide (se ≤ 72057594037927935) = x9
  generalize decide (1 ≤ i) = x10
  generalize decide (i ≤ 72057594037927935) = x11
  generalize decide (1 ≤ k) = x12
  generalize decide (k ≤ 4) = x13
  generalize decide (0 ≤ f) = x14
  generalize decide (f ≤ 71) = x15
  generalize decide (0 ≤ t) = x16
  generalize decide (t ≤ 71) = x17
  cases x12 <;> cases x13 <;> cases x14 <;> cases x15 <;> cases x16 <;> cases x17 <;> cases x5 <;> cases x10 <;> cases x11 <;> cases x2 <;> simp
  cases h1 <;> cases h2 <;> cases h3 <;> cases x1 <;> cases x3 <;> cases x4 <;> simp

theorem V_PCheck (p : Pk) : FV (F T) 54 [.agg (pk p)] = some (.bool (chkP p)) := by
  have vo := V_only p
  have eo := eq_only p
  rw [chkP_eq]
  obtain ⟨k, f, t, i, pe, se, b⟩ := p
  have v1 := V_hasPeer k
  have v2 := V_hasSeq k
  have v3 := V_hasBody k
  have n1 := V_node f
  have n2 := V_node t
  have m1 := V_number true i
  have m2 := V_number (hP k) pe
  have m3 := V_number (hS k) se
  have ql : decide ((b.length : Int) ≤ 32) = decide (b.length ≤ 32) := by rw [decide_eq_decide]; omega
  have key : ∀ a, F T 54 [.agg (pk ⟨k, f, t, i, pe, se, b⟩)] [] = some (.bool a, []) → FV (F T) 54 [.agg (pk ⟨k, f, t, i, pe, se, b⟩)] = some (.bool a) := fun a h => by simpa using FV_of h
  refine key _ (F_W T54 ?_)
  simp only [c54, c54_b, Lift.start]
  simp only [pk] at vo eo ⊢
  generalize bE ⟨k, f, t, i, pe, se, b⟩ = xe at *
  generalize hP k = h1 at *
  generalize hS k = h2 at *
  generalize hB k = h3 at *
  generalize onlyP ⟨k, f, t, i, pe, se, b⟩ = o at *
  generalize isN f = xf at *
  generalize isN t = xt at *
  generalize numN true i = y1 at *
  generalize numN h1 pe = y2 at *
  generalize numN h2 se = y3 at *
  by_cases a1 : k < 1
  · have a1' : ¬ 1 ≤ k := by omega
    repeat (first | refine W_assoc ?_ | (show W _ (.seq (.region _ _) _) _ _; refine W_reg (by simp; with_reducible rfl) ?_) | (show R _ _ _ (_ :: _) _ _ _ _; refine R_op (by simp (maxSteps := 2000000) [a1]; with_reducible rfl) ?_) | (show R _ _ _ [] _ _ _ _; refine R_nil (by simp; with_reducible rfl) ?_) | (show W _ (.seq (.cond _ _ _) _) _ _; first | refine W_ct (by first | (simp [a1]; done) | fail) ?_ | refine W_cf (by first | (simp [a1]; done) | fail) ?_) | refine W_skip ?_ | refine W_bl (c := .seq _ _) ?_ | refine W_bl (c := .region _ _) ?_ | refine W_bl (c := .cond _ _ _) ?_ | refine W_bl (c := .block _ _) ?_ | refine W_rt ?_ | refine W_ex ?_ | refine W_end ?_ | refine W_tail (a := .region _ _) ?_ | refine W_tail (a := .cond _ _ _) ?_ | refine W_tail (a := .ret) ?_ | refine W_tail (a := .exit _) ?_ | refine W_tail (a := .block _ _) ?_ | refine QB_normal ?_ | refine QB_exit ?_ | refine QB_ret ?_ | refine QB_out (by decide) ?_ | refine QL_next ?_ | refine QL_exit ?_ | refine QL_ret ?_ | refine QL_out (by decide) ?_ | (show Fin _ _ .ret _; exact Fin_ret (by first | (simp [c54, a1']; done) | (simp [c54, a1']; with_reducible rfl))) | (show Fin _ _ .normal _; exact Fin_end (by first | (simp [c54, a1']; done) | (simp [c54, a1']; with_reducible rfl))))
  have a1' : 1 ≤ k := by omega
  by_cases a2 : 4 < k
  · have a2' : ¬ k ≤ 4 := by omega
    repeat (first | refine W_assoc ?_ | (show W _ (.seq (.region _ _) _) _ _; refine W_reg (by simp; with_reducible rfl) ?_) | (show R _ _ _ (_ :: _) _ _ _ _; refine R_op (by simp (maxSteps := 2000000) [a1, a2]; with_reducible rfl) ?_) | (show R _ _ _ [] _ _ _ _; refine R_nil (by simp; with_reducible rfl) ?_) | (show W _ (.seq (.cond _ _ _) _) _ _; first | refine W_ct (by first | (simp [a1, a2]; done) | fail) ?_ | refine W_cf (by first | (simp [a1, a2]; done) | fail) ?_) | refine W_skip ?_ | refine W_bl (c := .seq _ _) ?_ | refine W_bl (c := .region _ _) ?_ | refine W_bl (c := .cond _ _ _) ?_ | refine W_bl (c := .block _ _) ?_ | refine W_rt ?_ | refine W_ex ?_ | refine W_end ?_ | refine W_tail (a := .region _ _) ?_ | refine W_tail (a := .cond _ _ _) ?_ | refine W_tail (a := .ret) ?_ | refine W_tail (a := .exit _) ?_ | refine W_tail (a := .block _ _) ?_ | refine QB_normal ?_ | refine QB_exit ?_ | refine QB_ret ?_ | refine QB_out (by decide) ?_ | refine QL_next ?_ | refine QL_exit ?_ | refine QL_ret ?_ | refine QL_out (by decide) ?_ | (show Fin _ _ .ret _; exact Fin_ret (by first | (simp [c54, a1', a2']; done) | (simp [c54, a1', a2']; with_reducible rfl))) | (show Fin _ _ .normal _; exact Fin_end (by first | (simp [c54, a1', a2']; done) | (simp [c54, a1', a2']; with_reducible rfl))))
  have a2' : k ≤ 4 := by omega
  cases xf with
  | false => repeat (first | refine W_assoc ?_ | (show W _ (.seq (.region _ _) _) _ _; refine W_reg (by simp; with_reducible rfl) ?_) | (show R _ _ _ (_ :: _) _ _ _ _; refine R_op (by simp (maxSteps := 2000000) [a1, a2, n1]; with_reducible rfl) ?_) | (show R _ _ _ [] _ _ _ _; refine R_nil (by simp; with_reducible rfl) ?_) | (show W _ (.seq (.cond _ _ _) _) _ _; first | refine W_ct (by first | (simp [a1, a2, n1]; done) | fail) ?_ | refine W_cf (by first | (simp [a1, a2, n1]; done) | fail) ?_) | refine W_skip ?_ | refine W_bl (c := .seq _ _) ?_ | refine W_bl (c := .region _ _) ?_ | refine W_bl (c := .cond _ _ _) ?_ | refine W_bl (c := .block _ _) ?_ | refine W_rt ?_ | refine W_ex ?_ | refine W_end ?_ | refine W_tail (a := .region _ _) ?_ | refine W_tail (a := .cond _ _ _) ?_ | refine W_tail (a := .ret) ?_ | refine W_tail (a := .exit _) ?_ | refine W_tail (a := .block _ _) ?_ | refine QB_normal ?_ | refine QB_exit ?_ | refine QB_ret ?_ | refine QB_out (by decide) ?_ | refine QL_next ?_ | refine QL_exit ?_ | refine QL_ret ?_ | refine QL_out (by decide) ?_ | (show Fin _ _ .ret _; exact Fin_ret (by first | (simp [c54]; done) | (simp [c54]; with_reducible rfl))) | (show Fin _ _ .normal _; exact Fin_end (by first | (simp [c54]; done) | (simp [c54]; with_reducible rfl))))
  | true =>
    cases xt with
    | false => repeat (first | refine W_assoc ?_ | (show W _ (.seq (.region _ _) _) _ _; refine W_reg (by simp; with_reducible rfl) ?_) | (show R _ _ _ (_ :: _) _ _ _ _; refine R_op (by simp (maxSteps := 2000000) [a1, a2, n1, n2]; with_reducible rfl) ?_) | (show R _ _ _ [] _ _ _ _; refine R_nil (by simp; with_reducible rfl) ?_) | (show W _ (.seq (.cond _ _ _) _) _ _; first | refine W_ct (by first | (simp [a1, a2, n1, n2]; done) | fail) ?_ | refine W_cf (by first | (simp [a1, a2, n1, n2]; done) | fail) ?_) | refine W_skip ?_ | refine W_bl (c := .seq _ _) ?_ | refine W_bl (c := .region _ _) ?_ | refine W_bl (c := .cond _ _ _) ?_ | refine W_bl (c := .block _ _) ?_ | refine W_rt ?_ | refine W_ex ?_ | refine W_end ?_ | refine W_tail (a := .region _ _) ?_ | refine W_tail (a := .cond _ _ _) ?_ | refine W_tail (a := .ret) ?_ | refine W_tail (a := .exit _) ?_ | refine W_tail (a := .block _ _) ?_ | refine QB_normal ?_ | refine QB_exit ?_ | refine QB_ret ?_ | refine QB_out (by decide) ?_ | refine QL_next ?_ | refine QL_exit ?_ | refine QL_ret ?_ | refine QL_out (by decide) ?_ | (show Fin _ _ .ret _; exact Fin_ret (by first | (simp [c54]; done) | (simp [c54]; with_reducible rfl))) | (show Fin _ _ .normal _; exact Fin_end (by first | (simp [c54]; done) | (simp [c54]; with_reducible rfl))))
    | true =>
      by_cases a3 : f = t
      · repeat (first | refine W_assoc ?_ | (show W _ (.seq (.region _ _) _) _ _; refine W_reg (by simp; with_reducible rfl) ?_) | (show R _ _ _ (_ :: _) _ _ _ _; refine R_op (by simp (maxSteps := 2000000) [a1, a2, n1, n2, a3]; with_reducible rfl) ?_) | (show R _ _ _ [] _ _ _ _; refine R_nil (by simp; with_reducible rfl) ?_) | (show W _ (.seq (.cond _ _ _) _) _ _; first | refine W_ct (by first | (simp [a1, a2, n1, n2, a3]; done) | fail) ?_ | refine W_cf (by first | (simp [a1, a2, n1, n2, a3]; done) | fail) ?_) | refine W_skip ?_ | refine W_bl (c := .seq _ _) ?_ | refine W_bl (c := .region _ _) ?_ | refine W_bl (c := .cond _ _ _) ?_ | refine W_bl (c := .block _ _) ?_ | refine W_rt ?_ | refine W_ex ?_ | refine W_end ?_ | refine W_tail (a := .region _ _) ?_ | refine W_tail (a := .cond _ _ _) ?_ | refine W_tail (a := .ret) ?_ | refine W_tail (a := .exit _) ?_ | refine W_tail (a := .block _ _) ?_ | refine QB_normal ?_ | refine QB_exit ?_ | refine QB_ret ?_ | refine QB_out (by decide) ?_ | refine QL_next ?_ | refine QL_exit ?_ | refine QL_ret ?_ | refine QL_out (by decide) ?_ | (show Fin _ _ .ret _; exact Fin_ret (by first | (simp [c54, a3]; done) | (simp [c54, a3]; with_reducible rfl))) | (show Fin _ _ .normal _; exact Fin_end (by first | (simp [c54, a3]; done) | (simp [c54, a3]; with_reducible rfl))))
      · cases xe with
        | false => repeat (first | refine W_assoc ?_ | (show W _ (.seq (.region _ _) _) _ _; refine W_reg (by simp; with_reducible rfl) ?_) | (show R _ _ _ (_ :: _) _ _ _ _; refine R_op (by simp (maxSteps := 2000000) [a1, a2, n1, n2, a3, vo, eo]; with_reducible rfl) ?_) | (show R _ _ _ [] _ _ _ _; refine R_nil (by simp; with_reducible rfl) ?_) | (show W _ (.seq (.cond _ _ _) _) _ _; first | refine W_ct (by first | (simp [a1, a2, n1, n2, a3, vo, eo]; done) | fail) ?_ | refine W_cf (by first | (simp [a1, a2, n1, n2, a3, vo, eo]; done) | fail) ?_) | refine W_skip ?_ | refine W_bl (c := .seq _ _) ?_ | refine W_bl (c := .region _ _) ?_ | refine W_bl (c := .cond _ _ _) ?_ | refine W_bl (c := .block _ _) ?_ | refine W_rt ?_ | refine W_ex ?_ | refine W_end ?_ | refine W_tail (a := .region _ _) ?_ | refine W_tail (a := .cond _ _ _) ?_ | refine W_tail (a := .ret) ?_ | refine W_tail (a := .exit _) ?_ | refine W_tail (a := .block _ _) ?_ | refine QB_normal ?_ | refine QB_exit ?_ | refine QB_ret ?_ | refine QB_out (by decide) ?_ | refine QL_next ?_ | refine QL_exit ?_ | refine QL_ret ?_ | refine QL_out (by decide) ?_ | (show Fin _ _ .ret _; exact Fin_ret (by first | (simp [c54, a3]; done) | (simp [c54, a3]; with_reducible rfl))) | (show Fin _ _ .normal _; exact Fin_end (by first | (simp [c54, a3]; done) | (simp [c54, a3]; with_reducible rfl))))
        | true =>
          cases h3 with
          | true =>
            by_cases a4 : b = []
            · subst a4
              repeat (first | refine W_assoc ?_ | (show W _ (.seq (.region _ _) _) _ _; refine W_reg (by simp; with_reducible rfl) ?_) | (show R _ _ _ (_ :: _) _ _ _ _; refine R_op (by simp (maxSteps := 2000000) [a1, a2, n1, n2, a3, vo, eo, v3]; with_reducible rfl) ?_) | (show R _ _ _ [] _ _ _ _; refine R_nil (by simp; with_reducible rfl) ?_) | (show W _ (.seq (.cond _ _ _) _) _ _; first | refine W_ct (by first | (simp [a1, a2, n1, n2, a3, vo, eo, v3]; done) | fail) ?_ | refine W_cf (by first | (simp [a1, a2, n1, n2, a3, vo, eo, v3]; done) | fail) ?_) | refine W_skip ?_ | refine W_bl (c := .seq _ _) ?_ | refine W_bl (c := .region _ _) ?_ | refine W_bl (c := .cond _ _ _) ?_ | refine W_bl (c := .block _ _) ?_ | refine W_rt ?_ | refine W_ex ?_ | refine W_end ?_ | refine W_tail (a := .region _ _) ?_ | refine W_tail (a := .cond _ _ _) ?_ | refine W_tail (a := .ret) ?_ | refine W_tail (a := .exit _) ?_ | refine W_tail (a := .block _ _) ?_ | refine QB_normal ?_ | refine QB_exit ?_ | refine QB_ret ?_ | refine QB_out (by decide) ?_ | refine QL_next ?_ | refine QL_exit ?_ | refine QL_ret ?_ | refine QL_out (by decide) ?_ | (show Fin _ _ .ret _; exact Fin_ret (by first | (simp [c54, a3]; done) | (simp [c54, a3]; with_reducible rfl))) | (show Fin _ _ .normal _; exact Fin_end (by first | (simp [c54, a3]; done) | (simp [c54, a3]; with_reducible rfl))))
            ·
              cases y1 with
              | false => 
                    repeat (first | refine W_assoc ?_ | (show W _ (.seq (.region _ _) _) _ _; refine W_reg (by simp; with_reducible rfl) ?_) | (show R _ _ _ (_ :: _) _ _ _ _; refine R_op (by simp (maxSteps := 2000000) [a1, a2, n1, n2, a3, vo, eo, v1, v2, v3, a4, m1, m2, m3, ql]; with_reducible rfl) ?_) | (show R _ _ _ [] _ _ _ _; refine R_nil (by simp; with_reducible rfl) ?_) | (show W _ (.seq (.cond _ _ _) _) _ _; first | refine W_ct (by first | (simp [a1, a2, n1, n2, a3, vo, eo, v1, v2, v3, a4, m1, m2, m3, ql]; done) | fail) ?_ | refine W_cf (by first | (simp [a1, a2, n1, n2, a3, vo, eo, v1, v2, v3, a4, m1, m2, m3, ql]; done) | fail) ?_) | refine W_skip ?_ | refine W_bl (c := .seq _ _) ?_ | refine W_bl (c := .region _ _) ?_ | refine W_bl (c := .cond _ _ _) ?_ | refine W_bl (c := .block _ _) ?_ | refine W_rt ?_ | refine W_ex ?_ | refine W_end ?_ | refine W_tail (a := .region _ _) ?_ | refine W_tail (a := .cond _ _ _) ?_ | refine W_tail (a := .ret) ?_ | refine W_tail (a := .exit _) ?_ | refine W_tail (a := .block _ _) ?_ | refine QB_normal ?_ | refine QB_exit ?_ | refine QB_ret ?_ | refine QB_out (by decide) ?_ | refine QL_next ?_ | refine QL_exit ?_ | refine QL_ret ?_ | refine QL_out (by decide) ?_ | (show Fin _ _ .ret _; exact Fin_ret (by first | (simp [c54, a1', a2', a3, a4, ql]; done) | (simp [c54, a1', a2', a3, a4, ql]; with_reducible rfl))) | (show Fin _ _ .normal _; exact Fin_end (by first | (simp [c54, a1', a2', a3, a4, ql]; done) | (simp [c54, a1', a2', a3, a4, ql]; with_reducible rfl))))
              | true =>
                cases y2 with
                | false => 
                    repeat (first | refine W_assoc ?_ | (show W _ (.seq (.region _ _) _) _ _; refine W_reg (by simp; with_reducible rfl) ?_) | (show R _ _ _ (_ :: _) _ _ _ _; refine R_op (by simp (maxSteps := 2000000) [a1, a2, n1, n2, a3, vo, eo, v1, v2, v3, a4, m1, m2, m3, ql]; with_reducible rfl) ?_) | (show R _ _ _ [] _ _ _ _; refine R_nil (by simp; with_reducible rfl) ?_) | (show W _ (.seq (.cond _ _ _) _) _ _; first | refine W_ct (by first | (simp [a1, a2, n1, n2, a3, vo, eo, v1, v2, v3, a4, m1, m2, m3, ql]; done) | fail) ?_ | refine W_cf (by first | (simp [a1, a2, n1, n2, a3, vo, eo, v1, v2, v3, a4, m1, m2, m3, ql]; done) | fail) ?_) | refine W_skip ?_ | refine W_bl (c := .seq _ _) ?_ | refine W_bl (c := .region _ _) ?_ | refine W_bl (c := .cond _ _ _) ?_ | refine W_bl (c := .block _ _) ?_ | refine W_rt ?_ | refine W_ex ?_ | refine W_end ?_ | refine W_tail (a := .region _ _) ?_ | refine W_tail (a := .cond _ _ _) ?_ | refine W_tail (a := .ret) ?_ | refine W_tail (a := .exit _) ?_ | refine W_tail (a := .block _ _) ?_ | refine QB_normal ?_ | refine QB_exit ?_ | refine QB_ret ?_ | refine QB_out (by decide) ?_ | refine QL_next ?_ | refine QL_exit ?_ | refine QL_ret ?_ | refine QL_out (by decide) ?_ | (show Fin _ _ .ret _; exact Fin_ret (by first | (simp [c54, a1', a2', a3, a4, ql]; done) | (simp [c54, a1', a2', a3, a4, ql]; with_reducible rfl))) | (show Fin _ _ .normal _; exact Fin_end (by first | (simp [c54, a1', a2', a3, a4, ql]; done) | (simp [c54, a1', a2', a3, a4, ql]; with_reducible rfl))))
                | true =>
                  cases y3 with
                  | false => 
                    repeat (first | refine W_assoc ?_ | (show W _ (.seq (.region _ _) _) _ _; refine W_reg (by simp; with_reducible rfl) ?_) | (show R _ _ _ (_ :: _) _ _ _ _; refine R_op (by simp (maxSteps := 2000000) [a1, a2, n1, n2, a3, vo, eo, v1, v2, v3, a4, m1, m2, m3, ql]; with_reducible rfl) ?_) | (show R _ _ _ [] _ _ _ _; refine R_nil (by simp; with_reducible rfl) ?_) | (show W _ (.seq (.cond _ _ _) _) _ _; first | refine W_ct (by first | (simp [a1, a2, n1, n2, a3, vo, eo, v1, v2, v3, a4, m1, m2, m3, ql]; done) | fail) ?_ | refine W_cf (by first | (simp [a1, a2, n1, n2, a3, vo, eo, v1, v2, v3, a4, m1, m2, m3, ql]; done) | fail) ?_) | refine W_skip ?_ | refine W_bl (c := .seq _ _) ?_ | refine W_bl (c := .region _ _) ?_ | refine W_bl (c := .cond _ _ _) ?_ | refine W_bl (c := .block _ _) ?_ | refine W_rt ?_ | refine W_ex ?_ | refine W_end ?_ | refine W_tail (a := .region _ _) ?_ | refine W_tail (a := .cond _ _ _) ?_ | refine W_tail (a := .ret) ?_ | refine W_tail (a := .exit _) ?_ | refine W_tail (a := .block _ _) ?_ | refine QB_normal ?_ | refine QB_exit ?_ | refine QB_ret ?_ | refine QB_out (by decide) ?_ | refine QL_next ?_ | refine QL_exit ?_ | refine QL_ret ?_ | refine QL_out (by decide) ?_ | (show Fin _ _ .ret _; exact Fin_ret (by first | (simp [c54, a1', a2', a3, a4, ql]; done) | (simp [c54, a1', a2', a3, a4, ql]; with_reducible rfl))) | (show Fin _ _ .normal _; exact Fin_end (by first | (simp [c54, a1', a2', a3, a4, ql]; done) | (simp [c54, a1', a2', a3, a4, ql]; with_reducible rfl))))
                  | true => 
                    repeat (first | refine W_assoc ?_ | (show W _ (.seq (.region _ _) _) _ _; refine W_reg (by simp; with_reducible rfl) ?_) | (show R _ _ _ (_ :: _) _ _ _ _; refine R_op (by simp (maxSteps := 2000000) [a1, a2, n1, n2, a3, vo, eo, v1, v2, v3, a4, m1, m2, m3, ql]; with_reducible rfl) ?_) | (show R _ _ _ [] _ _ _ _; refine R_nil (by simp; with_reducible rfl) ?_) | (show W _ (.seq (.cond _ _ _) _) _ _; first | refine W_ct (by first | (simp [a1, a2, n1, n2, a3, vo, eo, v1, v2, v3, a4, m1, m2, m3, ql]; done) | fail) ?_ | refine W_cf (by first | (simp [a1, a2, n1, n2, a3, vo, eo, v1, v2, v3, a4, m1, m2, m3, ql]; done) | fail) ?_) | refine W_skip ?_ | refine W_bl (c := .seq _ _) ?_ | refine W_bl (c := .region _ _) ?_ | refine W_bl (c := .cond _ _ _) ?_ | refine W_bl (c := .block _ _) ?_ | refine W_rt ?_ | refine W_ex ?_ | refine W_end ?_ | refine W_tail (a := .region _ _) ?_ | refine W_tail (a := .cond _ _ _) ?_ | refine W_tail (a := .ret) ?_ | refine W_tail (a := .exit _) ?_ | refine W_tail (a := .block _ _) ?_ | refine QB_normal ?_ | refine QB_exit ?_ | refine QB_ret ?_ | refine QB_out (by decide) ?_ | refine QL_next ?_ | refine QL_exit ?_ | refine QL_ret ?_ | refine QL_out (by decide) ?_ | (show Fin _ _ .ret _; exact Fin_ret (by first | (simp [c54, a1', a2', a3, a4, ql]; done) | (simp [c54, a1', a2', a3, a4, ql]; with_reducible rfl))) | (show Fin _ _ .normal _; exact Fin_end (by first | (simp [c54, a1', a2', a3, a4, ql]; done) | (simp [c54, a1', a2', a3, a4, ql]; with_reducible rfl))))
          | false =>
            cases y1 with
            | false => 
                  repeat (first | refine W_assoc ?_ | (show W _ (.seq (.region _ _) _) _ _; refine W_reg (by simp; with_reducible rfl) ?_) | (show R _ _ _ (_ :: _) _ _ _ _; refine R_op (by simp (maxSteps := 2000000) [a1, a2, n1, n2, a3, vo, eo, v1, v2, v3, m1, m2, m3, ql]; with_reducible rfl) ?_) | (show R _ _ _ [] _ _ _ _; refine R_nil (by simp; with_reducible rfl) ?_) | (show W _ (.seq (.cond _ _ _) _) _ _; first | refine W_ct (by first | (simp [a1, a2, n1, n2, a3, vo, eo, v1, v2, v3, m1, m2, m3, ql]; done) | fail) ?_ | refine W_cf (by first | (simp [a1, a2, n1, n2, a3, vo, eo, v1, v2, v3, m1, m2, m3, ql]; done) | fail) ?_) | refine W_skip ?_ | refine W_bl (c := .seq _ _) ?_ | refine W_bl (c := .region _ _) ?_ | refine W_bl (c := .cond _ _ _) ?_ | refine W_bl (c := .block _ _) ?_ | refine W_rt ?_ | refine W_ex ?_ | refine W_end ?_ | refine W_tail (a := .region _ _) ?_ | refine W_tail (a := .cond _ _ _) ?_ | refine W_tail (a := .ret) ?_ | refine W_tail (a := .exit _) ?_ | refine W_tail (a := .block _ _) ?_ | refine QB_normal ?_ | refine QB_exit ?_ | refine QB_ret ?_ | refine QB_out (by decide) ?_ | refine QL_next ?_ | refine QL_exit ?_ | refine QL_ret ?_ | refine QL_out (by decide) ?_ | (show Fin _ _ .ret _; exact Fin_ret (by first | (simp [c54, a1', a2', a3, ql]; done) | (simp [c54, a1', a2', a3, ql]; with_reducible rfl))) | (show Fin _ _ .normal _; exact Fin_end (by first | (simp [c54, a1', a2', a3, ql]; done) | (simp [c54, a1', a2', a3, ql]; with_reducible rfl))))
            | true =>
              cases y2 with
              | false => 
                  repeat (first | refine W_assoc ?_ | (show W _ (.seq (.region _ _) _) _ _; refine W_reg (by simp; with_reducible rfl) ?_) | (show R _ _ _ (_ :: _) _ _ _ _; refine R_op (by simp (maxSteps := 2000000) [a1, a2, n1, n2, a3, vo, eo, v1, v2, v3, m1, m2, m3, ql]; with_reducible rfl) ?_) | (show R _ _ _ [] _ _ _ _; refine R_nil (by simp; with_reducible rfl) ?_) | (show W _ (.seq (.cond _ _ _) _) _ _; first | refine W_ct (by first | (simp [a1, a2, n1, n2, a3, vo, eo, v1, v2, v3, m1, m2, m3, ql]; done) | fail) ?_ | refine W_cf (by first | (simp [a1, a2, n1, n2, a3, vo, eo, v1, v2, v3, m1, m2, m3, ql]; done) | fail) ?_) | refine W_skip ?_ | refine W_bl (c := .seq _ _) ?_ | refine W_bl (c := .region _ _) ?_ | refine W_bl (c := .cond _ _ _) ?_ | refine W_bl (c := .block _ _) ?_ | refine W_rt ?_ | refine W_ex ?_ | refine W_end ?_ | refine W_tail (a := .region _ _) ?_ | refine W_tail (a := .cond _ _ _) ?_ | refine W_tail (a := .ret) ?_ | refine W_tail (a := .exit _) ?_ | refine W_tail (a := .block _ _) ?_ | refine QB_normal ?_ | refine QB_exit ?_ | refine QB_ret ?_ | refine QB_out (by decide) ?_ | refine QL_next ?_ | refine QL_exit ?_ | refine QL_ret ?_ | refine QL_out (by decide) ?_ | (show Fin _ _ .ret _; exact Fin_ret (by first | (simp [c54, a1', a2', a3, ql]; done) | (simp [c54, a1', a2', a3, ql]; with_reducible rfl))) | (show Fin _ _ .normal _; exact Fin_end (by first | (simp [c54, a1', a2', a3, ql]; done) | (simp [c54, a1', a2', a3, ql]; with_reducible rfl))))
              | true =>
                cases y3 with
                | false => 
                  repeat (first | refine W_assoc ?_ | (show W _ (.seq (.region _ _) _) _ _; refine W_reg (by simp; with_reducible rfl) ?_) | (show R _ _ _ (_ :: _) _ _ _ _; refine R_op (by simp (maxSteps := 2000000) [a1, a2, n1, n2, a3, vo, eo, v1, v2, v3, m1, m2, m3, ql]; with_reducible rfl) ?_) | (show R _ _ _ [] _ _ _ _; refine R_nil (by simp; with_reducible rfl) ?_) | (show W _ (.seq (.cond _ _ _) _) _ _; first | refine W_ct (by first | (simp [a1, a2, n1, n2, a3, vo, eo, v1, v2, v3, m1, m2, m3, ql]; done) | fail) ?_ | refine W_cf (by first | (simp [a1, a2, n1, n2, a3, vo, eo, v1, v2, v3, m1, m2, m3, ql]; done) | fail) ?_) | refine W_skip ?_ | refine W_bl (c := .seq _ _) ?_ | refine W_bl (c := .region _ _) ?_ | refine W_bl (c := .cond _ _ _) ?_ | refine W_bl (c := .block _ _) ?_ | refine W_rt ?_ | refine W_ex ?_ | refine W_end ?_ | refine W_tail (a := .region _ _) ?_ | refine W_tail (a := .cond _ _ _) ?_ | refine W_tail (a := .ret) ?_ | refine W_tail (a := .exit _) ?_ | refine W_tail (a := .block _ _) ?_ | refine QB_normal ?_ | refine QB_exit ?_ | refine QB_ret ?_ | refine QB_out (by decide) ?_ | refine QL_next ?_ | refine QL_exit ?_ | refine QL_ret ?_ | refine QL_out (by decide) ?_ | (show Fin _ _ .ret _; exact Fin_ret (by first | (simp [c54, a1', a2', a3, ql]; done) | (simp [c54, a1', a2', a3, ql]; with_reducible rfl))) | (show Fin _ _ .normal _; exact Fin_end (by first | (simp [c54, a1', a2', a3, ql]; done) | (simp [c54, a1', a2', a3, ql]; with_reducible rfl))))
                | true => 
                  repeat (first | refine W_assoc ?_ | (show W _ (.seq (.region _ _) _) _ _; refine W_reg (by simp; with_reducible rfl) ?_) | (show R _ _ _ (_ :: _) _ _ _ _; refine R_op (by simp (maxSteps := 2000000) [a1, a2, n1, n2, a3, vo, eo, v1, v2, v3, m1, m2, m3, ql]; with_reducible rfl) ?_) | (show R _ _ _ [] _ _ _ _; refine R_nil (by simp; with_reducible rfl) ?_) | (show W _ (.seq (.cond _ _ _) _) _ _; first | refine W_ct (by first | (simp [a1, a2, n1, n2, a3, vo, eo, v1, v2, v3, m1, m2, m3, ql]; done) | fail) ?_ | refine W_cf (by first | (simp [a1, a2, n1, n2, a3, vo, eo, v1, v2, v3, m1, m2, m3, ql]; done) | fail) ?_) | refine W_skip ?_ | refine W_bl (c := .seq _ _) ?_ | refine W_bl (c := .region _ _) ?_ | refine W_bl (c := .cond _ _ _) ?_ | refine W_bl (c := .block _ _) ?_ | refine W_rt ?_ | refine W_ex ?_ | refine W_end ?_ | refine W_tail (a := .region _ _) ?_ | refine W_tail (a := .cond _ _ _) ?_ | refine W_tail (a := .ret) ?_ | refine W_tail (a := .exit _) ?_ | refine W_tail (a := .block _ _) ?_ | refine QB_normal ?_ | refine QB_exit ?_ | refine QB_ret ?_ | refine QB_out (by decide) ?_ | refine QL_next ?_ | refine QL_exit ?_ | refine QL_ret ?_ | refine QL_out (by decide) ?_ | (show Fin _ _ .ret _; exact Fin_ret (by first | (simp [c54, a1', a2', a3, ql]; done) | (simp [c54, a1', a2', a3, ql]; with_reducible rfl))) | (show Fin _ _ .normal _; exact Fin_end (by first | (simp [c54, a1', a2', a3, ql]; done) | (simp [c54, a1', a2', a3, ql]; with_reducible rfl))))

theorem V_R23Check (p : Pk) : FV (F T) 38 [.agg (pk p)] = some (.bool (chkP p)) := by
  obtain ⟨k, f, t, i, pe, se, b⟩ := p
  unfold chkP
  simp only []
  have m1 := V_R23Num true i
  have m2 := V_R23Num (hP k) pe
  have m3 := V_R23Num (hS k) se
  have key : ∀ a, F T 38 [.agg (pk ⟨k, f, t, i, pe, se, b⟩)] [] = some (.bool a, []) → FV (F T) 38 [.agg (pk ⟨k, f, t, i, pe, se, b⟩)] = some (.bool a) := fun a h => by simpa using FV_of h
  refine key _ (F_W T38 ?_)
  simp only [c38, c38_b, Lift.start]
  simp only [pk]
  generalize inF true i 1 72057594037927935 = y1 at *
  by_cases a1 : k < 1
  · have a1' : ¬ 1 ≤ k := by omega
    repeat (first | refine W_assoc ?_ | (show W _ (.seq (.region _ _) _) _ _; refine W_reg (by simp; with_reducible rfl) ?_) | (show R _ _ _ (_ :: _) _ _ _ _; refine R_op (by simp (maxSteps := 2000000) [a1]; with_reducible rfl) ?_) | (show R _ _ _ [] _ _ _ _; refine R_nil (by simp; with_reducible rfl) ?_) | (show W _ (.seq (.cond _ _ _) _) _ _; first | refine W_ct (by first | (simp [a1]; done) | fail) ?_ | refine W_cf (by first | (simp [a1]; done) | fail) ?_) | refine W_skip ?_ | refine W_bl (c := .seq _ _) ?_ | refine W_bl (c := .region _ _) ?_ | refine W_bl (c := .cond _ _ _) ?_ | refine W_bl (c := .block _ _) ?_ | refine W_rt ?_ | refine W_ex ?_ | refine W_end ?_ | refine W_tail (a := .region _ _) ?_ | refine W_tail (a := .cond _ _ _) ?_ | refine W_tail (a := .ret) ?_ | refine W_tail (a := .exit _) ?_ | refine W_tail (a := .block _ _) ?_ | refine QB_normal ?_ | refine QB_exit ?_ | refine QB_ret ?_ | refine QB_out (by decide) ?_ | refine QL_next ?_ | refine QL_exit ?_ | refine QL_ret ?_ | refine QL_out (by decide) ?_ | (show Fin _ _ .ret _; exact Fin_ret (by first | (simp [c38, a1']; done) | (simp [c38, a1']; with_reducible rfl))) | (show Fin _ _ .normal _; exact Fin_end (by first | (simp [c38, a1']; done) | (simp [c38, a1']; with_reducible rfl))))
  have a1' : 1 ≤ k := by omega
  by_cases a2 : 4 < k
  · have a2' : ¬ k ≤ 4 := by omega
    repeat (first | refine W_assoc ?_ | (show W _ (.seq (.region _ _) _) _ _; refine W_reg (by simp; with_reducible rfl) ?_) | (show R _ _ _ (_ :: _) _ _ _ _; refine R_op (by simp (maxSteps := 2000000) [a1, a2]; with_reducible rfl) ?_) | (show R _ _ _ [] _ _ _ _; refine R_nil (by simp; with_reducible rfl) ?_) | (show W _ (.seq (.cond _ _ _) _) _ _; first | refine W_ct (by first | (simp [a1, a2]; done) | fail) ?_ | refine W_cf (by first | (simp [a1, a2]; done) | fail) ?_) | refine W_skip ?_ | refine W_bl (c := .seq _ _) ?_ | refine W_bl (c := .region _ _) ?_ | refine W_bl (c := .cond _ _ _) ?_ | refine W_bl (c := .block _ _) ?_ | refine W_rt ?_ | refine W_ex ?_ | refine W_end ?_ | refine W_tail (a := .region _ _) ?_ | refine W_tail (a := .cond _ _ _) ?_ | refine W_tail (a := .ret) ?_ | refine W_tail (a := .exit _) ?_ | refine W_tail (a := .block _ _) ?_ | refine QB_normal ?_ | refine QB_exit ?_ | refine QB_ret ?_ | refine QB_out (by decide) ?_ | refine QL_next ?_ | refine QL_exit ?_ | refine QL_ret ?_ | refine QL_out (by decide) ?_ | (show Fin _ _ .ret _; exact Fin_ret (by first | (simp [c38, a1', a2']; done) | (simp [c38, a1', a2']; with_reducible rfl))) | (show Fin _ _ .normal _; exact Fin_end (by first | (simp [c38, a1', a2']; done) | (simp [c38, a1', a2']; with_reducible rfl))))
  have a2' : k ≤ 4 := by omega
  by_cases b1 : f < 0
  · have b1' : ¬ 0 ≤ f := by omega
    repeat (first | refine W_assoc ?_ | (show W _ (.seq (.region _ _) _) _ _; refine W_reg (by simp; with_reducible rfl) ?_) | (show R _ _ _ (_ :: _) _ _ _ _; refine R_op (by simp (maxSteps := 2000000) [a1, a2, b1]; with_reducible rfl) ?_) | (show R _ _ _ [] _ _ _ _; refine R_nil (by simp; with_reducible rfl) ?_) | (show W _ (.seq (.cond _ _ _) _) _ _; first | refine W_ct (by first | (simp [a1, a2, b1]; done) | fail) ?_ | refine W_cf (by first | (simp [a1, a2, b1]; done) | fail) ?_) | refine W_skip ?_ | refine W_bl (c := .seq _ _) ?_ | refine W_bl (c := .region _ _) ?_ | refine W_bl (c := .cond _ _ _) ?_ | refine W_bl (c := .block _ _) ?_ | refine W_rt ?_ | refine W_ex ?_ | refine W_end ?_ | refine W_tail (a := .region _ _) ?_ | refine W_tail (a := .cond _ _ _) ?_ | refine W_tail (a := .ret) ?_ | refine W_tail (a := .exit _) ?_ | refine W_tail (a := .block _ _) ?_ | refine QB_normal ?_ | refine QB_exit ?_ | refine QB_ret ?_ | refine QB_out (by decide) ?_ | refine QL_next ?_ | refine QL_exit ?_ | refine QL_ret ?_ | refine QL_out (by decide) ?_ | (show Fin _ _ .ret _; exact Fin_ret (by first | (simp [c38, a1', a2', b1']; done) | (simp [c38, a1', a2', b1']; with_reducible rfl))) | (show Fin _ _ .normal _; exact Fin_end (by first | (simp [c38, a1', a2', b1']; done) | (simp [c38, a1', a2', b1']; with_reducible rfl))))
  have b1' : 0 ≤ f := by omega
  by_cases b2 : 71 < f
  · have b2' : ¬ f ≤ 71 := by omega
    repeat (first | refine W_assoc ?_ | (show W _ (.seq (.region _ _) _) _ _; refine W_reg (by simp; with_reducible rfl) ?_) | (show R _ _ _ (_ :: _) _ _ _ _; refine R_op (by simp (maxSteps := 2000000) [a1, a2, b1, b2]; with_reducible rfl) ?_) | (show R _ _ _ [] _ _ _ _; refine R_nil (by simp; with_reducible rfl) ?_) | (show W _ (.seq (.cond _ _ _) _) _ _; first | refine W_ct (by first | (simp [a1, a2, b1, b2]; done) | fail) ?_ | refine W_cf (by first | (simp [a1, a2, b1, b2]; done) | fail) ?_) | refine W_skip ?_ | refine W_bl (c := .seq _ _) ?_ | refine W_bl (c := .region _ _) ?_ | refine W_bl (c := .cond _ _ _) ?_ | refine W_bl (c := .block _ _) ?_ | refine W_rt ?_ | refine W_ex ?_ | refine W_end ?_ | refine W_tail (a := .region _ _) ?_ | refine W_tail (a := .cond _ _ _) ?_ | refine W_tail (a := .ret) ?_ | refine W_tail (a := .exit _) ?_ | refine W_tail (a := .block _ _) ?_ | refine QB_normal ?_ | refine QB_exit ?_ | refine QB_ret ?_ | refine QB_out (by decide) ?_ | refine QL_next ?_ | refine QL_exit ?_ | refine QL_ret ?_ | refine QL_out (by decide) ?_ | (show Fin _ _ .ret _; exact Fin_ret (by first | (simp [c38, a1', a2', b1', b2']; done) | (simp [c38, a1', a2', b1', b2']; with_reducible rfl))) | (show Fin _ _ .normal _; exact Fin_end (by first | (simp [c38, a1', a2', b1', b2']; done) | (simp [c38, a1', a2', b1', b2']; with_reducible rfl))))
  have b2' : f ≤ 71 := by omega
  by_cases b3 : t < 0
  · have b3' : ¬ 0 ≤ t := by omega
    repeat (first | refine W_assoc ?_ | (show W _ (.seq (.region _ _) _) _ _; refine W_reg (by simp; with_reducible rfl) ?_) | (show R _ _ _ (_ :: _) _ _ _ _; refine R_op (by simp (maxSteps := 2000000) [a1, a2, b1, b2, b3]; with_reducible rfl) ?_) | (show R _ _ _ [] _ _ _ _; refine R_nil (by simp; with_reducible rfl) ?_) | (show W _ (.seq (.cond _ _ _) _) _ _; first | refine W_ct (by first | (simp [a1, a2, b1, b2, b3]; done) | fail) ?_ | refine W_cf (by first | (simp [a1, a2, b1, b2, b3]; done) | fail) ?_) | refine W_skip ?_ | refine W_bl (c := .seq _ _) ?_ | refine W_bl (c := .region _ _) ?_ | refine W_bl (c := .cond _ _ _) ?_ | refine W_bl (c := .block _ _) ?_ | refine W_rt ?_ | refine W_ex ?_ | refine W_end ?_ | refine W_tail (a := .region _ _) ?_ | refine W_tail (a := .cond _ _ _) ?_ | refine W_tail (a := .ret) ?_ | refine W_tail (a := .exit _) ?_ | refine W_tail (a := .block _ _) ?_ | refine QB_normal ?_ | refine QB_exit ?_ | refine QB_ret ?_ | refine QB_out (by decide) ?_ | refine QL_next ?_ | refine QL_exit ?_ | refine QL_ret ?_ | refine QL_out (by decide) ?_ | (show Fin _ _ .ret _; exact Fin_ret (by first | (simp [c38, a1', a2', b1', b2', b3']; done) | (simp [c38, a1', a2', b1', b2', b3']; with_reducible rfl))) | (show Fin _ _ .normal _; exact Fin_end (by first | (simp [c38, a1', a2', b1', b2', b3']; done) | (simp [c38, a1', a2', b1', b2', b3']; with_reducible rfl))))
  have b3' : 0 ≤ t := by omega
  by_cases b4 : 71 < t
  · have b4' : ¬ t ≤ 71 := by omega
    repeat (first | refine W_assoc ?_ | (show W _ (.seq (.region _ _) _) _ _; refine W_reg (by simp; with_reducible rfl) ?_) | (show R _ _ _ (_ :: _) _ _ _ _; refine R_op (by simp (maxSteps := 2000000) [a1, a2, b1, b2, b3, b4]; with_reducible rfl) ?_) | (show R _ _ _ [] _ _ _ _; refine R_nil (by simp; with_reducible rfl) ?_) | (show W _ (.seq (.cond _ _ _) _) _ _; first | refine W_ct (by first | (simp [a1, a2, b1, b2, b3, b4]; done) | fail) ?_ | refine W_cf (by first | (simp [a1, a2, b1, b2, b3, b4]; done) | fail) ?_) | refine W_skip ?_ | refine W_bl (c := .seq _ _) ?_ | refine W_bl (c := .region _ _) ?_ | refine W_bl (c := .cond _ _ _) ?_ | refine W_bl (c := .block _ _) ?_ | refine W_rt ?_ | refine W_ex ?_ | refine W_end ?_ | refine W_tail (a := .region _ _) ?_ | refine W_tail (a := .cond _ _ _) ?_ | refine W_tail (a := .ret) ?_ | refine W_tail (a := .exit _) ?_ | refine W_tail (a := .block _ _) ?_ | refine QB_normal ?_ | refine QB_exit ?_ | refine QB_ret ?_ | refine QB_out (by decide) ?_ | refine QL_next ?_ | refine QL_exit ?_ | refine QL_ret ?_ | refine QL_out (by decide) ?_ | (show Fin _ _ .ret _; exact Fin_ret (by first | (simp [c38, a1', a2', b1', b2', b3', b4']; done) | (simp [c38, a1', a2', b1', b2', b3', b4']; with_reducible rfl))) | (show Fin _ _ .normal _; exact Fin_end (by first | (simp [c38, a1', a2', b1', b2', b3', b4']; done) | (simp [c38, a1', a2', b1', b2', b3', b4']; with_reducible rfl))))
  have b4' : t ≤ 71 := by omega
  by_cases b5 : f = t
  · repeat (first | refine W_assoc ?_ | (show W _ (.seq (.region _ _) _) _ _; refine W_reg (by simp; with_reducible rfl) ?_) | (show R _ _ _ (_ :: _) _ _ _ _; refine R_op (by simp (maxSteps := 2000000) [a1, a2, b1, b2, b3, b4, b5]; with_reducible rfl) ?_) | (show R _ _ _ [] _ _ _ _; refine R_nil (by simp; with_reducible rfl) ?_) | (show W _ (.seq (.cond _ _ _) _) _ _; first | refine W_ct (by first | (simp [a1, a2, b1, b2, b3, b4, b5]; done) | fail) ?_ | refine W_cf (by first | (simp [a1, a2, b1, b2, b3, b4, b5]; done) | fail) ?_) | refine W_skip ?_ | refine W_bl (c := .seq _ _) ?_ | refine W_bl (c := .region _ _) ?_ | refine W_bl (c := .cond _ _ _) ?_ | refine W_bl (c := .block _ _) ?_ | refine W_rt ?_ | refine W_ex ?_ | refine W_end ?_ | refine W_tail (a := .region _ _) ?_ | refine W_tail (a := .cond _ _ _) ?_ | refine W_tail (a := .ret) ?_ | refine W_tail (a := .exit _) ?_ | refine W_tail (a := .block _ _) ?_ | refine QB_normal ?_ | refine QB_exit ?_ | refine QB_ret ?_ | refine QB_out (by decide) ?_ | refine QL_next ?_ | refine QL_exit ?_ | refine QL_ret ?_ | refine QL_out (by decide) ?_ | (show Fin _ _ .ret _; exact Fin_ret (by first | (simp [c38, a1', a2', b1', b2', b3', b4', b5]; done) | (simp [c38, a1', a2', b1', b2', b3', b4', b5]; with_reducible rfl))) | (show Fin _ _ .normal _; exact Fin_end (by first | (simp [c38, a1', a2', b1', b2', b3', b4', b5]; done) | (simp [c38, a1', a2', b1', b2', b3', b4', b5]; with_reducible rfl))))
  have q1 : decide (k < 4) = hP k := by unfold hP; rw [Bool.eq_iff_iff]; simp; omega
  have q2 : decide (k < 3) = hS k := by unfold hS; rw [Bool.eq_iff_iff]; simp; omega
  have hb : decide (0 < b.length) = decide ((0 : Int) < b.length) := by rw [decide_eq_decide]; omega
  have hbk : hB k = (decide (k = 1) || decide (k = 4)) := rfl
  rw [hbk]
  generalize hP k = h1 at *
  generalize hS k = h2 at *
  generalize inF h1 pe 1 72057594037927935 = y2 at *
  generalize inF h2 se 1 72057594037927935 = y3 at *
  cases y1 with
  | false =>
    repeat (first | refine W_assoc ?_ | (show W _ (.seq (.region _ _) _) _ _; refine W_reg (by simp; with_reducible rfl) ?_) | (show R _ _ _ (_ :: _) _ _ _ _; refine R_op (by simp (maxSteps := 2000000) [a1, a2, b1, b2, b3, b4, b5, q1, q2, m1, m2, m3]; with_reducible rfl) ?_) | (show R _ _ _ [] _ _ _ _; refine R_nil (by simp; with_reducible rfl) ?_) | (show W _ (.seq (.cond _ _ _) _) _ _; first | refine W_ct (by first | (simp [a1, a2, b1, b2, b3, b4, b5, q1, q2, m1, m2, m3]; done) | fail) ?_ | refine W_cf (by first | (simp [a1, a2, b1, b2, b3, b4, b5, q1, q2, m1, m2, m3]; done) | fail) ?_) | refine W_skip ?_ | refine W_bl (c := .seq _ _) ?_ | refine W_bl (c := .region _ _) ?_ | refine W_bl (c := .cond _ _ _) ?_ | refine W_bl (c := .block _ _) ?_ | refine W_rt ?_ | refine W_ex ?_ | refine W_end ?_ | refine W_tail (a := .region _ _) ?_ | refine W_tail (a := .cond _ _ _) ?_ | refine W_tail (a := .ret) ?_ | refine W_tail (a := .exit _) ?_ | refine W_tail (a := .block _ _) ?_ | refine QB_normal ?_ | refine QB_exit ?_ | refine QB_ret ?_ | refine QB_out (by decide) ?_ | refine QL_next ?_ | refine QL_exit ?_ | refine QL_ret ?_ | refine QL_out (by decide) ?_ | (show Fin _ _ .ret _; exact Fin_ret (by first | (simp [c38, a1', a2', b1', b2', b3', b4', b5]; done) | (simp [c38, a1', a2', b1', b2', b3', b4', b5]; with_reducible rfl))) | (show Fin _ _ .normal _; exact Fin_end (by first | (simp [c38, a1', a2', b1', b2', b3', b4', b5]; done) | (simp [c38, a1', a2', b1', b2', b3', b4', b5]; with_reducible rfl))))
  | true =>
  cases y2 with
  | false =>
    repeat (first | refine W_assoc ?_ | (show W _ (.seq (.region _ _) _) _ _; refine W_reg (by simp; with_reducible rfl) ?_) | (show R _ _ _ (_ :: _) _ _ _ _; refine R_op (by simp (maxSteps := 2000000) [a1, a2, b1, b2, b3, b4, b5, q1, q2, m1, m2, m3]; with_reducible rfl) ?_) | (show R _ _ _ [] _ _ _ _; refine R_nil (by simp; with_reducible rfl) ?_) | (show W _ (.seq (.cond _ _ _) _) _ _; first | refine W_ct (by first | (simp [a1, a2, b1, b2, b3, b4, b5, q1, q2, m1, m2, m3]; done) | fail) ?_ | refine W_cf (by first | (simp [a1, a2, b1, b2, b3, b4, b5, q1, q2, m1, m2, m3]; done) | fail) ?_) | refine W_skip ?_ | refine W_bl (c := .seq _ _) ?_ | refine W_bl (c := .region _ _) ?_ | refine W_bl (c := .cond _ _ _) ?_ | refine W_bl (c := .block _ _) ?_ | refine W_rt ?_ | refine W_ex ?_ | refine W_end ?_ | refine W_tail (a := .region _ _) ?_ | refine W_tail (a := .cond _ _ _) ?_ | refine W_tail (a := .ret) ?_ | refine W_tail (a := .exit _) ?_ | refine W_tail (a := .block _ _) ?_ | refine QB_normal ?_ | refine QB_exit ?_ | refine QB_ret ?_ | refine QB_out (by decide) ?_ | refine QL_next ?_ | refine QL_exit ?_ | refine QL_ret ?_ | refine QL_out (by decide) ?_ | (show Fin _ _ .ret _; exact Fin_ret (by first | (simp [c38, a1', a2', b1', b2', b3', b4', b5]; done) | (simp [c38, a1', a2', b1', b2', b3', b4', b5]; with_reducible rfl))) | (show Fin _ _ .normal _; exact Fin_end (by first | (simp [c38, a1', a2', b1', b2', b3', b4', b5]; done) | (simp [c38, a1', a2', b1', b2', b3', b4', b5]; with_reducible rfl))))
  | true =>
  cases y3 with
  | false =>
    repeat (first | refine W_assoc ?_ | (show W _ (.seq (.region _ _) _) _ _; refine W_reg (by simp; with_reducible rfl) ?_) | (show R _ _ _ (_ :: _) _ _ _ _; refine R_op (by simp (maxSteps := 2000000) [a1, a2, b1, b2, b3, b4, b5, q1, q2, m1, m2, m3]; with_reducible rfl) ?_) | (show R _ _ _ [] _ _ _ _; refine R_nil (by simp; with_reducible rfl) ?_) | (show W _ (.seq (.cond _ _ _) _) _ _; first | refine W_ct (by first | (simp [a1, a2, b1, b2, b3, b4, b5, q1, q2, m1, m2, m3]; done) | fail) ?_ | refine W_cf (by first | (simp [a1, a2, b1, b2, b3, b4, b5, q1, q2, m1, m2, m3]; done) | fail) ?_) | refine W_skip ?_ | refine W_bl (c := .seq _ _) ?_ | refine W_bl (c := .region _ _) ?_ | refine W_bl (c := .cond _ _ _) ?_ | refine W_bl (c := .block _ _) ?_ | refine W_rt ?_ | refine W_ex ?_ | refine W_end ?_ | refine W_tail (a := .region _ _) ?_ | refine W_tail (a := .cond _ _ _) ?_ | refine W_tail (a := .ret) ?_ | refine W_tail (a := .exit _) ?_ | refine W_tail (a := .block _ _) ?_ | refine QB_normal ?_ | refine QB_exit ?_ | refine QB_ret ?_ | refine QB_out (by decide) ?_ | refine QL_next ?_ | refine QL_exit ?_ | refine QL_ret ?_ | refine QL_out (by decide) ?_ | (show Fin _ _ .ret _; exact Fin_ret (by first | (simp [c38, a1', a2', b1', b2', b3', b4', b5]; done) | (simp [c38, a1', a2', b1', b2', b3', b4', b5]; with_reducible rfl))) | (show Fin _ _ .normal _; exact Fin_end (by first | (simp [c38, a1', a2', b1', b2', b3', b4', b5]; done) | (simp [c38, a1', a2', b1', b2', b3', b4', b5]; with_reducible rfl))))
  | true =>
  by_cases b6 : 32 < b.length
  · have b6' : (32 : Int) < b.length := by omega
    have b6'' : ¬ b.length ≤ 32 := by omega
    repeat (first | refine W_assoc ?_ | (show W _ (.seq (.region _ _) _) _ _; refine W_reg (by simp; with_reducible rfl) ?_) | (show R _ _ _ (_ :: _) _ _ _ _; refine R_op (by simp (maxSteps := 2000000) [a1, a2, b1, b2, b3, b4, b5, b6, b6', q1, q2, m1, m2, m3]; with_reducible rfl) ?_) | (show R _ _ _ [] _ _ _ _; refine R_nil (by simp; with_reducible rfl) ?_) | (show W _ (.seq (.cond _ _ _) _) _ _; first | refine W_ct (by first | (simp [a1, a2, b1, b2, b3, b4, b5, b6, b6', q1, q2, m1, m2, m3]; done) | fail) ?_ | refine W_cf (by first | (simp [a1, a2, b1, b2, b3, b4, b5, b6, b6', q1, q2, m1, m2, m3]; done) | fail) ?_) | refine W_skip ?_ | refine W_bl (c := .seq _ _) ?_ | refine W_bl (c := .region _ _) ?_ | refine W_bl (c := .cond _ _ _) ?_ | refine W_bl (c := .block _ _) ?_ | refine W_rt ?_ | refine W_ex ?_ | refine W_end ?_ | refine W_tail (a := .region _ _) ?_ | refine W_tail (a := .cond _ _ _) ?_ | refine W_tail (a := .ret) ?_ | refine W_tail (a := .exit _) ?_ | refine W_tail (a := .block _ _) ?_ | refine QB_normal ?_ | refine QB_exit ?_ | refine QB_ret ?_ | refine QB_out (by decide) ?_ | refine QL_next ?_ | refine QL_exit ?_ | refine QL_ret ?_ | refine QL_out (by decide) ?_ | (show Fin _ _ .ret _; exact Fin_ret (by first | (simp [c38, a1', a2', b1', b2', b3', b4', b5, b6'']; done) | (simp [c38, a1', a2', b1', b2', b3', b4', b5, b6'']; with_reducible rfl))) | (show Fin _ _ .normal _; exact Fin_end (by first | (simp [c38, a1', a2', b1', b2', b3', b4', b5, b6'']; done) | (simp [c38, a1', a2', b1', b2', b3', b4', b5, b6'']; with_reducible rfl))))
  have b6' : ¬ (32 : Int) < b.length := by omega
  have b6'' : b.length ≤ 32 := by omega
  by_cases k1 : k = 1
  · obtain rfl : h1 = true := by rw [← q1, k1]; rfl
    obtain rfl : h2 = true := by rw [← q2, k1]; rfl
    repeat (first | refine W_assoc ?_ | (show W _ (.seq (.region _ _) _) _ _; refine W_reg (by simp; with_reducible rfl) ?_) | (show R _ _ _ (_ :: _) _ _ _ _; refine R_op (by simp (maxSteps := 2000000) [a1, a2, b1, b2, b3, b4, b5, b6, b6', m1, m2, m3, k1]; with_reducible rfl) ?_) | (show R _ _ _ [] _ _ _ _; refine R_nil (by simp; with_reducible rfl) ?_) | (show W _ (.seq (.cond _ _ _) _) _ _; first | refine W_ct (by first | (simp [a1, a2, b1, b2, b3, b4, b5, b6, b6', m1, m2, m3, k1]; done) | fail) ?_ | refine W_cf (by first | (simp [a1, a2, b1, b2, b3, b4, b5, b6, b6', m1, m2, m3, k1]; done) | fail) ?_) | refine W_skip ?_ | refine W_bl (c := .seq _ _) ?_ | refine W_bl (c := .region _ _) ?_ | refine W_bl (c := .cond _ _ _) ?_ | refine W_bl (c := .block _ _) ?_ | refine W_rt ?_ | refine W_ex ?_ | refine W_end ?_ | refine W_tail (a := .region _ _) ?_ | refine W_tail (a := .cond _ _ _) ?_ | refine W_tail (a := .ret) ?_ | refine W_tail (a := .exit _) ?_ | refine W_tail (a := .block _ _) ?_ | refine QB_normal ?_ | refine QB_exit ?_ | refine QB_ret ?_ | refine QB_out (by decide) ?_ | refine QL_next ?_ | refine QL_exit ?_ | refine QL_ret ?_ | refine QL_out (by decide) ?_ | (show Fin _ _ .ret _; exact Fin_ret (by first | (simp [c38, a1', a2', b1', b2', b3', b4', b5, b6'', k1]; done) | (simp [c38, a1', a2', b1', b2', b3', b4', b5, b6'', k1]; with_reducible rfl))) | (show Fin _ _ .normal _; exact Fin_end (by first | (simp [c38, a1', a2', b1', b2', b3', b4', b5, b6'', k1]; done) | (simp [c38, a1', a2', b1', b2', b3', b4', b5, b6'', k1]; with_reducible rfl))))
  · repeat (first | refine W_assoc ?_ | (show W _ (.seq (.region _ _) _) _ _; refine W_reg (by simp; with_reducible rfl) ?_) | (show R _ _ _ (_ :: _) _ _ _ _; refine R_op (by simp (maxSteps := 2000000) [a1, a2, b1, b2, b3, b4, b5, b6, b6', q1, q2, m1, m2, m3, k1]; with_reducible rfl) ?_) | (show R _ _ _ [] _ _ _ _; refine R_nil (by simp; with_reducible rfl) ?_) | (show W _ (.seq (.cond _ _ _) _) _ _; first | refine W_ct (by first | (simp [a1, a2, b1, b2, b3, b4, b5, b6, b6', q1, q2, m1, m2, m3, k1]; done) | fail) ?_ | refine W_cf (by first | (simp [a1, a2, b1, b2, b3, b4, b5, b6, b6', q1, q2, m1, m2, m3, k1]; done) | fail) ?_) | refine W_skip ?_ | refine W_bl (c := .seq _ _) ?_ | refine W_bl (c := .region _ _) ?_ | refine W_bl (c := .cond _ _ _) ?_ | refine W_bl (c := .block _ _) ?_ | refine W_rt ?_ | refine W_ex ?_ | refine W_end ?_ | refine W_tail (a := .region _ _) ?_ | refine W_tail (a := .cond _ _ _) ?_ | refine W_tail (a := .ret) ?_ | refine W_tail (a := .exit _) ?_ | refine W_tail (a := .block _ _) ?_ | refine QB_normal ?_ | refine QB_exit ?_ | refine QB_ret ?_ | refine QB_out (by decide) ?_ | refine QL_next ?_ | refine QL_exit ?_ | refine QL_ret ?_ | refine QL_out (by decide) ?_ | (show Fin _ _ .ret _; exact Fin_ret (by first | (simp [c38, a1', a2', b1', b2', b3', b4', b5, b6'', k1]; done) | (simp [c38, a1', a2', b1', b2', b3', b4', b5, b6'', k1]; with_reducible rfl))) | (show Fin _ _ .normal _; exact Fin_end (by first | (simp [c38, a1', a2', b1', b2', b3', b4', b5, b6'', k1]; done) | (simp [c38, a1', a2', b1', b2', b3', b4', b5, b6'', k1]; with_reducible rfl))))

end Go.Proofs.Ytjpccbjgmogclaa.Oct
