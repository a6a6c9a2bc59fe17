/- aa worker's slots: what the program's and the document's functions come to. -/
import Derived.Test.YtnobgooojbppbaaQueue2
set_option linter.all false
set_option linter.unusedSimpArgs false
set_option maxRecDepth 100000
set_option maxHeartbeats 2000000
namespace Go.Proofs.Ytnobgooojbppbaa.Slots
open Go Go.RowKit Go.Proofs.Ytnobgooojbppbaa.Lift Go.Proofs.Ytnobgooojbppbaa.TS Go.Proofs.Ytnobgooojbppbaa.Base Go.Proofs.Ytnobgooojbppbaa.Queue

theorem wrapD (a : Int) (h1 : -9000000000000000000 ≤ a) (h2 : a ≤ 9000000000000000000) : IntKind.i64.wrap a = a := by
  rw [wrap_i64 _ (by omega) (by omega)]

/-- What is free. -/
def free (n : Int) (a r : Nat) : Int := if n - a - r < 0 then 0 else n - a - r

theorem V_free (n : Int) (hn : 0 ≤ n) (hm : n ≤ 9223372036854775807) (aa oo rr : List P2) (ha : aa.length ≤ 1000000) (hr : rr.length ≤ 1000000) :
    FV (F T) 92 [.agg [.int .i64 n, .ro 2 (enc e2 aa) false, .ro 2 (enc e2 oo) false, .ro 2 (enc e2 rr) false]] = some (.int .i64 (free n aa.length rr.length)) := by
  have w1 : IntKind.i64.wrap (n - aa.length) = n - aa.length := by rw [wrap_i64 _ (by omega) (by omega)]
  have w2 : IntKind.i64.wrap (n - aa.length - rr.length) = n - aa.length - rr.length := by rw [wrap_i64 _ (by omega) (by omega)]
  unfold free
  refine FV_W T92 (r := ?r1) (W_fin (ex := .ret) (by simp [c92, c92_b, w1, w2]; with_reducible rfl) (by simp) (by first | (simp [c92]; done) | (simp [c92]; with_reducible rfl))) (by simp)

theorem R30free_loop (n : Int) (hm : n ≤ 9223372036854775807) (aa oo rr : List P2) (ha : aa.length ≤ 1000000) (hr : rr.length ≤ 1000000) :
    ∀ (k i : Nat) (m : Int) (st : ASt), i + k = aa.length + rr.length → m = n - i → 0 ≤ m → canon [1, 3, 4] st = ⟨[.top, .ref 0 0 0, .top, .int .i64 m, .int .i64 i, .top, .top, .top, .top, .top, .top, .top, .top, .top, .top, .top, .top, .top, .top, .top, .top, .top, .top, .top, .top, .top, .top], [(0, ⟨128, 4, true, [[.int .i64 n, .ro 2 (enc e2 aa) false, .ro 2 (enc e2 oo) false, .ro 2 (enc e2 rr) false]], 0⟩)], 1, 0⟩ →
      W T c93_k0 st (Lift.Fin c93 (.int .i64 (free n aa.length rr.length), [])) := by
  have w0 : IntKind.i64.wrap ((aa.length : Int) + rr.length) = aa.length + rr.length := by rw [wrap_i64 _ (by omega) (by omega)]
  intro k
  induction k with
  | zero =>
    intro i m st hi hm0 hmm hc
    have h1 : ¬ (i : Int) < aa.length + rr.length := by omega
    have h2 : ¬ m < 0 := by omega
    have e : free n aa.length rr.length = m := by unfold free; rw [if_neg (by omega)]; omega
    unfold c93_k0
    refine W_round hc ?_
    unfold c93_l0
    rw [e]
    repeat (first | refine W_assoc ?_ | (show W _ (.seq (.region _ _) _) _ _; refine W_reg (by simp; with_reducible rfl) ?_) | (show R _ _ _ (_ :: _) _ _ _ _; refine R_op (by simp (maxSteps := 2000000) [w0, h1, h2]; with_reducible rfl) ?_) | (show R _ _ _ [] _ _ _ _; refine R_nil (by simp; with_reducible rfl) ?_) | (show W _ (.seq (.cond _ _ _) _) _ _; first | refine W_ct (by first | (simp [w0, h1, h2]; done) | fail) ?_ | refine W_cf (by first | (simp [w0, h1, h2]; done) | fail) ?_) | refine W_skip ?_ | refine W_bl (c := .seq _ _) ?_ | refine W_bl (c := .region _ _) ?_ | refine W_bl (c := .cond _ _ _) ?_ | refine W_bl (c := .block _ _) ?_ | refine W_rt ?_ | refine W_ex ?_ | refine W_end ?_ | refine W_tail (a := .region _ _) ?_ | refine W_tail (a := .cond _ _ _) ?_ | refine W_tail (a := .ret) ?_ | refine W_tail (a := .exit _) ?_ | refine W_tail (a := .block _ _) ?_ | refine QB_normal ?_ | refine QB_exit ?_ | refine QB_ret ?_ | refine QB_out (by decide) ?_ | refine QL_next ?_ | refine QL_exit ?_ | refine QL_ret ?_ | refine QL_out (by decide) ?_ | (show Fin _ _ .ret _; exact Fin_ret (by first | (simp [c93]; done) | (simp [c93]; with_reducible rfl))) | (show Fin _ _ .normal _; exact Fin_end (by first | (simp [c93]; done) | (simp [c93]; with_reducible rfl))))
  | succ k ih =>
    intro i m st hi hm0 hmm hc
    have h1 : (i : Int) < aa.length + rr.length := by omega
    unfold c93_k0
    refine W_round hc ?_
    unfold c93_l0
    by_cases hz : 0 < m
    · have w1 : IntKind.i64.wrap (m - 1) = m - 1 := by rw [wrap_i64 _ (by omega) (by omega)]
      have w2 : IntKind.i64.wrap ((i : Int) + 1) = i + 1 := by rw [wrap_i64 _ (by omega) (by omega)]
      repeat (first | refine W_assoc ?_ | (show W _ (.seq (.region _ _) _) _ _; refine W_reg (by simp; with_reducible rfl) ?_) | (show R _ _ _ (_ :: _) _ _ _ _; refine R_op (by simp (maxSteps := 2000000) [w0, h1, hz, w1, w2]; with_reducible rfl) ?_) | (show R _ _ _ [] _ _ _ _; refine R_nil (by simp; with_reducible rfl) ?_) | (show W _ (.seq (.cond _ _ _) _) _ _; first | refine W_ct (by first | (simp [w0, h1, hz, w1, w2]; done) | fail) ?_ | refine W_cf (by first | (simp [w0, h1, hz, w1, w2]; done) | fail) ?_) | refine W_skip ?_ | refine W_bl (c := .seq _ _) ?_ | refine W_bl (c := .region _ _) ?_ | refine W_bl (c := .cond _ _ _) ?_ | refine W_bl (c := .block _ _) ?_ | refine W_rt ?_ | refine W_ex ?_ | refine W_end ?_ | refine W_tail (a := .region _ _) ?_ | refine W_tail (a := .cond _ _ _) ?_ | refine W_tail (a := .ret) ?_ | refine W_tail (a := .exit _) ?_ | refine W_tail (a := .block _ _) ?_ | refine QB_normal ?_ | refine QB_exit ?_ | refine QB_ret ?_ | refine QB_out (by decide) ?_ | refine QL_next ?_ | refine QL_exit ?_ | refine QL_ret ?_ | refine QL_out (by decide) ?_ | (show Fin _ _ .ret _; exact Fin_ret (by first | (simp; done) | (simp; with_reducible rfl))) | (show Fin _ _ .normal _; exact Fin_end (by first | (simp; done) | (simp; with_reducible rfl))))
      exact ih (i + 1) (m - 1) _ (by omega) (by omega) (by omega) (by simp; try rfl)
    · have h2 : ¬ m < 0 := by omega
      have e : free n aa.length rr.length = m := by unfold free; split <;> omega
      rw [e]
      repeat (first | refine W_assoc ?_ | (show W _ (.seq (.region _ _) _) _ _; refine W_reg (by simp; with_reducible rfl) ?_) | (show R _ _ _ (_ :: _) _ _ _ _; refine R_op (by simp (maxSteps := 2000000) [w0, h1, hz, h2]; with_reducible rfl) ?_) | (show R _ _ _ [] _ _ _ _; refine R_nil (by simp; with_reducible rfl) ?_) | (show W _ (.seq (.cond _ _ _) _) _ _; first | refine W_ct (by first | (simp [w0, h1, hz, h2]; done) | fail) ?_ | refine W_cf (by first | (simp [w0, h1, hz, h2]; done) | fail) ?_) | refine W_skip ?_ | refine W_bl (c := .seq _ _) ?_ | refine W_bl (c := .region _ _) ?_ | refine W_bl (c := .cond _ _ _) ?_ | refine W_bl (c := .block _ _) ?_ | refine W_rt ?_ | refine W_ex ?_ | refine W_end ?_ | refine W_tail (a := .region _ _) ?_ | refine W_tail (a := .cond _ _ _) ?_ | refine W_tail (a := .ret) ?_ | refine W_tail (a := .exit _) ?_ | refine W_tail (a := .block _ _) ?_ | refine QB_normal ?_ | refine QB_exit ?_ | refine QB_ret ?_ | refine QB_out (by decide) ?_ | refine QL_next ?_ | refine QL_exit ?_ | refine QL_ret ?_ | refine QL_out (by decide) ?_ | (show Fin _ _ .ret _; exact Fin_ret (by first | (simp [c93]; done) | (simp [c93]; with_reducible rfl))) | (show Fin _ _ .normal _; exact Fin_end (by first | (simp [c93]; done) | (simp [c93]; with_reducible rfl))))

theorem V_R30free (n : Int) (hn : 0 ≤ n) (hm : n ≤ 9223372036854775807) (aa oo rr : List P2) (ha : aa.length ≤ 1000000) (hr : rr.length ≤ 1000000) :
    FV (F T) 93 [.agg [.int .i64 n, .ro 2 (enc e2 aa) false, .ro 2 (enc e2 oo) false, .ro 2 (enc e2 rr) false]] = some (.int .i64 (free n aa.length rr.length)) := by
  have h : F T 93 [.agg [.int .i64 n, .ro 2 (enc e2 aa) false, .ro 2 (enc e2 oo) false, .ro 2 (enc e2 rr) false]] [] = some (.int .i64 (free n aa.length rr.length), []) := by
    refine F_W T93 ?_
    simp only [c93, c93_b, Lift.start]
    repeat (first | refine W_assoc ?_ | (show W _ (.seq (.region _ _) _) _ _; refine W_reg (by simp; with_reducible rfl) ?_) | (show R _ _ _ (_ :: _) _ _ _ _; refine R_op (by simp (maxSteps := 2000000); with_reducible rfl) ?_) | (show R _ _ _ [] _ _ _ _; refine R_nil (by simp; with_reducible rfl) ?_) | (show W _ (.seq (.cond _ _ _) _) _ _; first | refine W_ct (by first | (simp; done) | fail) ?_ | refine W_cf (by first | (simp; done) | fail) ?_) | refine W_skip ?_ | refine W_bl (c := .seq _ _) ?_ | refine W_bl (c := .region _ _) ?_ | refine W_bl (c := .cond _ _ _) ?_ | refine W_bl (c := .block _ _) ?_ | refine W_rt ?_ | refine W_ex ?_ | refine W_end ?_ | refine W_tail (a := .region _ _) ?_ | refine W_tail (a := .cond _ _ _) ?_ | refine W_tail (a := .ret) ?_ | refine W_tail (a := .exit _) ?_ | refine W_tail (a := .block _ _) ?_ | refine QB_normal ?_ | refine QB_exit ?_ | refine QB_ret ?_ | refine QB_out (by decide) ?_ | refine QL_next ?_ | refine QL_exit ?_ | refine QL_ret ?_ | refine QL_out (by decide) ?_ | (show Fin _ _ .ret _; exact Fin_ret (by first | (simp; done) | (simp; with_reducible rfl))) | (show Fin _ _ .normal _; exact Fin_end (by first | (simp; done) | (simp; with_reducible rfl))))
    exact R30free_loop n hm aa oo rr ha hr (aa.length + rr.length) 0 n _ (by simp) (by simp) hn (by simp; try rfl)
  have := FV_of h
  simpa using this

/-- Ask: is there room, and none of the job? -/
def asks (n : Int) (aa rr : List P2) (j : Int) : Bool := !(decide (free n aa.length rr.length = 0) || aa.any fun x => decide (x.1 = j))

theorem V_ask (n : Int) (hn : 0 ≤ n) (hm : n ≤ 9223372036854775807) (aa oo rr : List P2) (ha : aa.length ≤ 1000000) (hr : rr.length ≤ 1000000) (j s : Int) :
    FV (F T) 89 [.agg [.int .i64 n, .ro 2 (enc e2 aa) false, .ro 2 (enc e2 oo) false, .ro 2 (enc e2 rr) false], .agg [.int .i64 j, .int .i64 s]] =
      some (.tup [.agg [.int .i64 n, .ro 2 (enc e2 (if asks n aa rr j then aa ++ [(j, s)] else aa)) false, .ro 2 (enc e2 oo) false, .ro 2 (enc e2 rr) false], .bool (asks n aa rr j)]) := by
  have h1 := V_free n hn hm aa oo rr ha hr
  have h2 := FV_of (F_has aa ha j)
  have h3 := F_clo aa ha
  have hb : (aa.length + 1) * 16 ≤ 140737488355328 := by omega
  have hb2 : aa.length + 1 ≤ 140737488355328 := by omega
  simp at h2
  unfold asks
  by_cases hf : free n aa.length rr.length = 0
  · simp only [hf, decide_true, Bool.true_or, Bool.not_true, Bool.false_eq_true, if_false]
    rw [hf] at h1
    refine FV_W T89 (r := ?r2) (W_fin (ex := .ret) (by simp [c89, c89_b, h1]; with_reducible rfl) (by simp) (by first | (simp [c89]; done) | (simp [c89]; with_reducible rfl))) (by simp)
  · simp only [hf, decide_false, Bool.false_or]
    cases hh : aa.any (fun x => decide (x.1 = j)) with
    | true =>
      rw [hh] at h2
      simp only [Bool.not_true, Bool.false_eq_true, if_false]
      refine FV_W T89 (r := ?r3) (W_fin (ex := .ret) (by simp [c89, c89_b, h1, hf, h2]; with_reducible rfl) (by simp) (by first | (simp [c89]; done) | (simp [c89]; with_reducible rfl))) (by simp)
    | false =>
      rw [hh] at h2
      simp only [Bool.not_false, if_true]
      refine FV_W T89 (r := ?r4) (W_fin (ex := .ret) (by simp [c89, c89_b, h1, hf, h2, h3, hb, hb2]; with_reducible rfl) (by simp) (by first | (simp [c89]; done) | (simp [c89]; with_reducible rfl))) (by simp)

theorem V_R30ask (n : Int) (hn : 0 ≤ n) (hm : n ≤ 9223372036854775807) (aa oo rr : List P2) (ha : aa.length ≤ 1000000) (hr : rr.length ≤ 1000000) (j s : Int) :
    FV (F T) 90 [.agg [.int .i64 n, .ro 2 (enc e2 aa) false, .ro 2 (enc e2 oo) false, .ro 2 (enc e2 rr) false], .agg [.int .i64 j, .int .i64 s]] =
      some (.tup [.agg [.int .i64 n, .ro 2 (enc e2 (if asks n aa rr j then aa ++ [(j, s)] else aa)) false, .ro 2 (enc e2 oo) false, .ro 2 (enc e2 rr) false], .bool (asks n aa rr j)]) := by
  have h1 := V_R30free n hn hm aa oo rr ha hr
  have h2 := FV_of (F_R29_Has aa ha j)
  have hb : (aa.length + 1) * 16 ≤ 140737488355328 := by omega
  have hb2 : aa.length + 1 ≤ 140737488355328 := by omega
  have hb3 : aa.length * 16 ≤ 140737488355328 := by omega
  have hb4 : aa.length ≤ 140737488355328 := by omega
  simp at h2
  unfold asks
  by_cases hf : free n aa.length rr.length = 0
  · simp only [hf, decide_true, Bool.true_or, Bool.not_true, Bool.false_eq_true, if_false]
    rw [hf] at h1
    refine FV_W T90 (r := ?r5) (W_fin (ex := .ret) (by simp [c90, c90_b, h1]; with_reducible rfl) (by simp) (by first | (simp [c90]; done) | (simp [c90]; with_reducible rfl))) (by simp)
  · simp only [hf, decide_false, Bool.false_or]
    cases hh : aa.any (fun x => decide (x.1 = j)) with
    | true =>
      rw [hh] at h2
      simp only [Bool.not_true, Bool.false_eq_true, if_false]
      refine FV_W T90 (r := ?r6) (W_fin (ex := .ret) (by simp [c90, c90_b, h1, hf, h2]; with_reducible rfl) (by simp) (by first | (simp [c90]; done) | (simp [c90]; with_reducible rfl))) (by simp)
    | false =>
      rw [hh] at h2
      simp only [Bool.not_false, if_true]
      refine FV_W T90 (r := ?r7) (W_fin (ex := .ret) (by simp [c90, c90_b, h1, hf, h2, hb, hb2, hb3, hb4]; with_reducible rfl) (by simp) (by first | (simp [c90]; done) | (simp [c90]; with_reducible rfl))) (by simp)

/-- What is left behind a drop. -/
def dr (aa : List P2) (j : Int) : List P2 := aa.filter fun x => !decide (x.1 = j)
theorem dr_len (aa : List P2) (j : Int) : (dr aa j).length ≤ aa.length := List.length_filter_le _ _

theorem V_none (n : Int) (aa oo rr : List P2) (ha : aa.length ≤ 1000000) (j : Int) :
    FV (F T) 94 [.agg [.int .i64 n, .ro 2 (enc e2 aa) false, .ro 2 (enc e2 oo) false, .ro 2 (enc e2 rr) false], .int .i64 j] =
      some (.tup [.agg [.int .i64 n, .ro 2 (enc e2 (dr aa j)) false, .ro 2 (enc e2 oo) false, .ro 2 (enc e2 rr) false], .bool (aa.any fun x => decide (x.1 = j))]) := by
  have h1 := FV_of (F_drop aa ha j)
  rw [any_filter (fun x : P2 => decide (x.1 = j))] at h1
  unfold dr
  simp at h1
  refine FV_W T94 (r := ?r8) (W_fin (ex := .ret) (by simp [c94, c94_b, h1]; with_reducible rfl) (by simp) (by first | (simp [c94]; done) | (simp [c94]; with_reducible rfl))) (by simp)

theorem V_R29drop (aa : List P2) (ha : aa.length ≤ 1000000) (j : Int) : FV (F T) 64 [.ro 2 (enc e2 aa) false, .int .i64 j] = some (.ro 2 (enc e2 (dr aa j)) false) := by
  have h := FV_of (F_R29_Drop aa j ha)
  rw [flatMap_drop (fun x : P2 => x.1 = j)] at h
  unfold dr
  simpa using h

theorem V_R30none (n : Int) (aa oo rr : List P2) (ha : aa.length ≤ 1000000) (j : Int) :
    FV (F T) 95 [.agg [.int .i64 n, .ro 2 (enc e2 aa) false, .ro 2 (enc e2 oo) false, .ro 2 (enc e2 rr) false], .int .i64 j] =
      some (.tup [.agg [.int .i64 n, .ro 2 (enc e2 (dr aa j)) false, .ro 2 (enc e2 oo) false, .ro 2 (enc e2 rr) false], .bool (aa.any fun x => decide (x.1 = j))]) := by
  have h1 := FV_of (F_R29_Has aa ha j)
  have h2 := V_R29drop aa ha j
  simp at h1
  refine FV_W T95 (r := ?r9) (W_fin (ex := .ret) (by simp [c95, c95_b, h1, h2]; with_reducible rfl) (by simp) (by first | (simp [c95]; done) | (simp [c95]; with_reducible rfl))) (by simp)

theorem F_tclo (l : List P2) (hl : l.length ≤ 1000000) : F T 122 [.ro 2 (enc e2 l) false] [] = some (.own 0 0 l.length, [⟨134, 2, false, enc e2 l, 0⟩]) :=
  F_cloneE T122 rfl (.inl rfl) (by omega) (by omega)

theorem V_with (l : List P2) (hl : l.length ≤ 1000000) (j t : Int) : FV (F T) 120 [.ro 2 (enc e2 l) false, .agg [.int .i64 j, .int .i64 t]] = some (.ro 2 (enc e2 (l ++ [(j, t)])) false) := by
  have h1 := F_tclo l hl
  have hb : (l.length + 1) * 16 ≤ 140737488355328 := by omega
  have hb2 : l.length + 1 ≤ 140737488355328 := by omega
  refine FV_W T120 (r := ?r10) (W_fin (ex := .ret) (by simp [c120, c120_b, h1, hb, hb2]; with_reducible rfl) (by simp) (by first | (simp [c120]; done) | (simp [c120]; with_reducible rfl))) (by simp)

/-- Give: does the task run at once? -/
def gives (n : Int) (aa rr : List P2) (j : Int) : Bool := !decide (free n (dr aa j).length rr.length = 0)

theorem V_give (n : Int) (hn : 0 ≤ n) (hm : n ≤ 9223372036854775807) (aa oo rr : List P2) (ha : aa.length ≤ 1000000) (ho : oo.length ≤ 1000000) (hr : rr.length ≤ 1000000) (j t : Int) :
    FV (F T) 96 [.agg [.int .i64 n, .ro 2 (enc e2 aa) false, .ro 2 (enc e2 oo) false, .ro 2 (enc e2 rr) false], .agg [.int .i64 j, .int .i64 t]] =
      some (.tup [.agg [.int .i64 n, .ro 2 (enc e2 (dr aa j)) false, .ro 2 (enc e2 (if gives n aa rr j then oo else oo ++ [(j, t)])) false, .ro 2 (enc e2 (if gives n aa rr j then rr ++ [(j, t)] else rr)) false], .bool (gives n aa rr j)]) := by
  have h1 := V_none n aa oo rr ha j
  have h2 := V_free n hn hm (dr aa j) oo rr (by have := dr_len aa j; omega) hr
  unfold gives
  by_cases hf : free n (dr aa j).length rr.length = 0
  · have h3 := V_with oo ho j t
    simp only [hf, decide_true, Bool.not_true, Bool.false_eq_true, if_false]
    rw [hf] at h2
    refine FV_W T96 (r := ?r11) (W_fin (ex := .ret) (by simp [c96, c96_b, h1, h2, h3]; with_reducible rfl) (by simp) (by first | (simp [c96]; done) | (simp [c96]; with_reducible rfl))) (by simp)
  · have h3 := V_with rr hr j t
    simp only [hf, decide_false, Bool.not_false, if_true]
    refine FV_W T96 (r := ?r12) (W_fin (ex := .ret) (by simp [c96, c96_b, h1, h2, h3, hf]; with_reducible rfl) (by simp) (by first | (simp [c96]; done) | (simp [c96]; with_reducible rfl))) (by simp)

theorem free_nn (n : Int) (a r : Nat) : 0 ≤ free n a r := by unfold free; split <;> omega

theorem V_R30give (n : Int) (hn : 0 ≤ n) (hm : n ≤ 9223372036854775807) (aa oo rr : List P2) (ha : aa.length ≤ 1000000) (ho : oo.length ≤ 1000000) (hr : rr.length ≤ 1000000) (j t : Int) :
    FV (F T) 97 [.agg [.int .i64 n, .ro 2 (enc e2 aa) false, .ro 2 (enc e2 oo) false, .ro 2 (enc e2 rr) false], .agg [.int .i64 j, .int .i64 t]] =
      some (.tup [.agg [.int .i64 n, .ro 2 (enc e2 (dr aa j)) false, .ro 2 (enc e2 (if gives n aa rr j then oo else oo ++ [(j, t)])) false, .ro 2 (enc e2 (if gives n aa rr j then rr ++ [(j, t)] else rr)) false], .bool (gives n aa rr j)]) := by
  have h1 := V_R29drop aa ha j
  have h2 := V_R30free n hn hm (dr aa j) oo rr (by have := dr_len aa j; omega) hr
  have hnn := free_nn n (dr aa j).length rr.length
  unfold gives
  by_cases hf : free n (dr aa j).length rr.length = 0
  · have hb : (oo.length + 1) * 16 ≤ 140737488355328 := by omega
    have hb2 : oo.length + 1 ≤ 140737488355328 := by omega
    have hb3 : oo.length * 16 ≤ 140737488355328 := by omega
    have hb4 : oo.length ≤ 140737488355328 := by omega
    simp only [hf, decide_true, Bool.not_true, Bool.false_eq_true, if_false]
    rw [hf] at h2
    refine FV_W T97 (r := ?r13) (W_fin (ex := .ret) (by simp [c97, c97_b, h1, h2, hb, hb2, hb3, hb4]; with_reducible rfl) (by simp) (by first | (simp [c97]; done) | (simp [c97]; with_reducible rfl))) (by simp)
  · have hb : (rr.length + 1) * 16 ≤ 140737488355328 := by omega
    have hb2 : rr.length + 1 ≤ 140737488355328 := by omega
    have hb3 : rr.length * 16 ≤ 140737488355328 := by omega
    have hb4 : rr.length ≤ 140737488355328 := by omega
    have hf2 : 0 < free n (dr aa j).length rr.length := by omega
    simp only [hf, decide_false, Bool.not_false, if_true]
    refine FV_W T97 (r := ?r14) (W_fin (ex := .ret) (by simp [c97, c97_b, h1, h2, hf2, hb, hb2, hb3, hb4]; with_reducible rfl) (by simp) (by first | (simp [c97]; done) | (simp [c97]; with_reducible rfl))) (by simp)

/-- Next: is there one that may run? -/
def nexts (n : Int) (aa oo rr : List P2) : Bool := !(oo.isEmpty || decide (free n aa.length rr.length = 0))

theorem V_next (n : Int) (hn : 0 ≤ n) (hm : n ≤ 9223372036854775807) (aa oo rr : List P2) (ha : aa.length ≤ 1000000) (ho : oo.length ≤ 1000000) (hr : rr.length ≤ 1000000) :
    FV (F T) 100 [.agg [.int .i64 n, .ro 2 (enc e2 aa) false, .ro 2 (enc e2 oo) false, .ro 2 (enc e2 rr) false]] =
      some (.tup [.agg [.int .i64 n, .ro 2 (enc e2 aa) false, .ro 2 (enc e2 (if nexts n aa oo rr then oo.tail else oo)) false, .ro 2 (enc e2 (if nexts n aa oo rr then rr ++ [oo.head?.getD (0, 0)] else rr)) false], .agg (e2 (if nexts n aa oo rr then oo.head?.getD (0, 0) else (0, 0))), .bool (nexts n aa oo rr)]) := by
  have h1 := V_free n hn hm aa oo rr ha hr
  unfold nexts
  cases oo with
  | nil =>
    simp only [List.isEmpty_nil, Bool.true_or, Bool.not_true, Bool.false_eq_true, if_false]
    refine FV_W T100 (r := ?r15) (W_fin (ex := .ret) (by simp [c100, c100_b]; with_reducible rfl) (by simp) (by first | (simp [c100]; done) | (simp [c100]; with_reducible rfl))) (by simp)
  | cons x t =>
    by_cases hf : free n aa.length rr.length = 0
    · simp only [hf, decide_true, Bool.or_true, Bool.not_true, Bool.false_eq_true, if_false]
      rw [hf] at h1
      refine FV_W T100 (r := ?r16) (W_fin (ex := .ret) (by simp [c100, c100_b, h1]; with_reducible rfl) (by simp) (by first | (simp [c100]; done) | (simp [c100]; with_reducible rfl))) (by simp)
    · have h2 := V_with rr hr x.1 x.2
      have h3 := F_tclo t (by simp at ho; omega)
      have h4 : (1:Int) ≤ t.length + 1 := by omega
      simp only [hf, List.isEmpty_cons, decide_false, Bool.or_false, Bool.not_false, if_true]
      refine FV_W T100 (r := ?r17) (W_fin (ex := .ret) (by simp [c100, c100_b, h1, hf, h2, h3, h4]; with_reducible rfl) (by simp) (by first | (simp [c100]; done) | (simp [c100]; with_reducible rfl))) (by simp)

theorem V_R30next (n : Int) (hn : 0 ≤ n) (hm : n ≤ 9223372036854775807) (aa oo rr : List P2) (ha : aa.length ≤ 1000000) (ho : oo.length ≤ 1000000) (hr : rr.length ≤ 1000000) :
    FV (F T) 101 [.agg [.int .i64 n, .ro 2 (enc e2 aa) false, .ro 2 (enc e2 oo) false, .ro 2 (enc e2 rr) false]] =
      some (.tup [.agg [.int .i64 n, .ro 2 (enc e2 aa) false, .ro 2 (enc e2 (if nexts n aa oo rr then oo.tail else oo)) false, .ro 2 (enc e2 (if nexts n aa oo rr then rr ++ [oo.head?.getD (0, 0)] else rr)) false], .agg (e2 (if nexts n aa oo rr then oo.head?.getD (0, 0) else (0, 0))), .bool (nexts n aa oo rr)]) := by
  have h1 := V_R30free n hn hm aa oo rr ha hr
  have hb : (rr.length + 1) * 16 ≤ 140737488355328 := by omega
  have hb2 : rr.length + 1 ≤ 140737488355328 := by omega
  have hb3 : rr.length * 16 ≤ 140737488355328 := by omega
  have hb4 : rr.length ≤ 140737488355328 := by omega
  unfold nexts
  cases oo with
  | nil =>
    simp only [List.isEmpty_nil, Bool.true_or, Bool.not_true, Bool.false_eq_true, if_false]
    refine FV_W T101 (r := ?r18) (W_fin (ex := .ret) (by simp [c101, c101_b]; with_reducible rfl) (by simp) (by first | (simp [c101]; done) | (simp [c101]; with_reducible rfl))) (by simp)
  | cons x t =>
    by_cases hf : free n aa.length rr.length = 0
    · simp only [hf, decide_true, Bool.or_true, Bool.not_true, Bool.false_eq_true, if_false]
      rw [hf] at h1
      refine FV_W T101 (r := ?r19) (W_fin (ex := .ret) (by simp [c101, c101_b, h1]; with_reducible rfl) (by simp) (by first | (simp [c101]; done) | (simp [c101]; with_reducible rfl))) (by simp)
    · have h4 : (1:Int) ≤ t.length + 1 := by omega
      simp only [hf, List.isEmpty_cons, decide_false, Bool.or_false, Bool.not_false, if_true]
      refine FV_W T101 (r := ?r20) (W_fin (ex := .ret) (by simp [c101, c101_b, h1, hf, hb, hb2, hb3, hb4, h4]; with_reducible rfl) (by simp) (by first | (simp [c101]; done) | (simp [c101]; with_reducible rfl))) (by simp)

theorem V_move (n : Int) (aa oo rr : List P2) (ha : aa.length ≤ 1000000) (j s : Int) :
    FV (F T) 104 [.agg [.int .i64 n, .ro 2 (enc e2 aa) false, .ro 2 (enc e2 oo) false, .ro 2 (enc e2 rr) false], .int .i64 j, .int .i64 s] =
      some (.agg [.int .i64 n, .ro 2 (enc e2 (aa.map (mv j s))) false, .ro 2 (enc e2 oo) false, .ro 2 (enc e2 rr) false]) := by
  have h1 := FV_of (F_move aa ha j s)
  simp at h1
  refine FV_W T104 (r := ?r21) (W_fin (ex := .ret) (by simp [c104, c104_b, h1]; with_reducible rfl) (by simp) (by first | (simp [c104]; done) | (simp [c104]; with_reducible rfl))) (by simp)

theorem EQU_loop (l m : List P2) (hl : l.length ≤ 140737488355328) (hlm : l.length = m.length) :
    ∀ (k i : Nat) (st : ASt), i + k = l.length → canon [0, 1, 12, 13] st = ⟨[.ro 2 (enc e2 l) false, .ro 2 (enc e2 m) false, .top, .top, .top, .top, .top, .top, .top, .top, .top, .top, .int .i64 l.length, .int .i64 i, .top, .top, .top, .top, .top, .top, .top, .top, .top, .top, .top, .top], [], 0, 0⟩ → W T c121_k0 st (Lift.Fin c121 (.bool (decide (l.drop i = m.drop i)), [])) := by
  intro k
  induction k with
  | zero =>
    intro i st hi hc
    have h1 : ¬ i < l.length := by omega
    have e1 : l.drop i = [] := List.drop_of_length_le (by omega)
    have e2 : m.drop i = [] := List.drop_of_length_le (by omega)
    unfold c121_k0
    refine W_exit (by rw [hc]; simp (maxSteps := 2000000) [c121_l0, h1]; with_reducible rfl) ?_
    exact W_fin (ex := .ret) (by simp (maxSteps := 2000000); with_reducible rfl) (by simp) (by first | (simp [c121, e1, e2]; done) | (simp [c121, e1, e2]; with_reducible rfl))
  | succ k ih =>
    intro i st hi hc
    have hlt : i < l.length := by omega
    have hlt2 : i < m.length := by omega
    have hw := wrapS i _ hlt hl
    have d1 := List.drop_eq_getElem_cons hlt
    have d2 := List.drop_eq_getElem_cons hlt2
    unfold c121_k0
    by_cases he : l[i] = m[i]
    · rw [d1, d2, he]
      simp only [List.cons.injEq, true_and]
      refine W_next (by rw [hc]; simp (maxSteps := 2000000) [c121_l0, hlt, hlt2, hw, he, eqCs, hlm]; with_reducible rfl) ?_
      exact ih (i + 1) _ (by omega) (by simp [hlm])
    · have hd : decide (l.drop i = m.drop i) = false := by
        rw [decide_eq_false_iff_not, d1, d2]; intro e; injection e with e _; exact he e
      rw [hd]
      have hne := e2_ne he
      exact W_ret (by rw [hc]; simp (maxSteps := 2000000) [c121_l0, hlt, hlt2, hne, eqCs, hlm]; with_reducible rfl) (Fin_ret (by simp [c121]))

theorem F_EQU (l m : List P2) (hl : l.length ≤ 1000000) (hm : m.length ≤ 1000000) : F T 121 [.ro 2 (enc e2 l) false, .ro 2 (enc e2 m) false] [] = some (.bool (decide (l = m)), []) := by
  refine F_W T121 ?_
  by_cases h : l.length = m.length
  · simp only [c121, c121_b, Lift.start]
    repeat (first | refine W_assoc ?_ | refine W_go (a := .region _ _) (by simp (maxSteps := 2000000) [h]; with_reducible rfl) ?_ | refine W_go (a := .cond _ _ _) (by simp (maxSteps := 2000000) [h]; with_reducible rfl) ?_ | refine W_go (a := .block _ (.seq _ _)) (by simp (maxSteps := 2000000) [h]; with_reducible rfl) ?_)
    have := EQU_loop l m (by omega) h l.length 0
    simp only [List.drop_zero] at this
    exact this _ (by simp) (by simp [h])
  · have h1 : decide (l = m) = false := by
      rw [decide_eq_false_iff_not]; intro e; exact h (by rw [e])
    have h2 : ¬ (l.length : Int) = (m.length : Int) := by omega
    rw [h1]
    exact W_fin (ex := .ret) (by simp (maxSteps := 2000000) [c121, c121_b, h2, h]; with_reducible rfl) (by simp) (by first | (simp [c121]; done) | (simp [c121]; with_reducible rfl))

theorem R30_Tasks_loop (l m : List P2) (hl : l.length ≤ 140737488355328) (hlm : l.length = m.length) :
    ∀ (k i : Nat) (st : ASt), i + k = l.length → canon [0, 1, 5] st = ⟨[.ro 2 (enc e2 l) false, .ro 2 (enc e2 m) false, .top, .top, .top, .int .i64 i, .top, .top, .top, .top, .top, .top, .top, .top, .top, .top, .top, .top, .top, .top, .top, .top, .top, .top, .top, .top], [], 0, 0⟩ → W T c119_k0 st (Lift.Fin c119 (.bool (decide (l.drop i = m.drop i)), [])) := by
  intro k
  induction k with
  | zero =>
    intro i st hi hc
    have h1 : ¬ i < l.length := by omega
    have e1 : l.drop i = [] := List.drop_of_length_le (by omega)
    have e2 : m.drop i = [] := List.drop_of_length_le (by omega)
    unfold c119_k0
    refine W_exit (by rw [hc]; simp (maxSteps := 2000000) [c119_l0, h1]; with_reducible rfl) ?_
    exact W_fin (ex := .ret) (by simp (maxSteps := 2000000); with_reducible rfl) (by simp) (by first | (simp [c119, e1, e2]; done) | (simp [c119, e1, e2]; with_reducible rfl))
  | succ k ih =>
    intro i st hi hc
    have hlt : i < l.length := by omega
    have hlt2 : i < m.length := by omega
    have hw := wrapS i _ hlt hl
    have d1 := List.drop_eq_getElem_cons hlt
    have d2 := List.drop_eq_getElem_cons hlt2
    unfold c119_k0
    by_cases he : l[i] = m[i]
    · rw [d1, d2, he]
      simp only [List.cons.injEq, true_and]
      refine W_next (by rw [hc]; simp (maxSteps := 2000000) [c119_l0, hlt, hlt2, hw, he, eqCs, hlm]; with_reducible rfl) ?_
      exact ih (i + 1) _ (by omega) (by simp [hlm])
    · have hd : decide (l.drop i = m.drop i) = false := by
        rw [decide_eq_false_iff_not, d1, d2]; intro e; injection e with e _; exact he e
      rw [hd]
      have hne := e2_ne he
      exact W_ret (by rw [hc]; simp (maxSteps := 2000000) [c119_l0, hlt, hlt2, hne, eqCs, hlm]; with_reducible rfl) (Fin_ret (by simp [c119]))

theorem F_R30_Tasks (l m : List P2) (hl : l.length ≤ 1000000) (hm : m.length ≤ 1000000) : F T 119 [.ro 2 (enc e2 l) false, .ro 2 (enc e2 m) false] [] = some (.bool (decide (l = m)), []) := by
  refine F_W T119 ?_
  by_cases h : l.length = m.length
  · simp only [c119, c119_b, Lift.start]
    repeat (first | refine W_assoc ?_ | refine W_go (a := .region _ _) (by simp (maxSteps := 2000000) [h]; with_reducible rfl) ?_ | refine W_go (a := .cond _ _ _) (by simp (maxSteps := 2000000) [h]; with_reducible rfl) ?_ | refine W_go (a := .block _ (.seq _ _)) (by simp (maxSteps := 2000000) [h]; with_reducible rfl) ?_)
    have := R30_Tasks_loop l m (by omega) h l.length 0
    simp only [List.drop_zero] at this
    exact this _ (by simp) (by simp [h])
  · have h1 : decide (l = m) = false := by
      rw [decide_eq_false_iff_not]; intro e; exact h (by rw [e])
    have h2 : ¬ (l.length : Int) = (m.length : Int) := by omega
    rw [h1]
    exact W_fin (ex := .ret) (by simp (maxSteps := 2000000) [c119, c119_b, h2, h]; with_reducible rfl) (by simp) (by first | (simp [c119]; done) | (simp [c119]; with_reducible rfl))


theorem V_same (n m : Int) (aa oo rr aa' oo' rr' : List P2) (ha : aa.length ≤ 1000000) (ho : oo.length ≤ 1000000) (hr : rr.length ≤ 1000000) (ha' : aa'.length ≤ 1000000) (ho' : oo'.length ≤ 1000000) (hr' : rr'.length ≤ 1000000) :
    FV (F T) 98 [.agg [.int .i64 n, .ro 2 (enc e2 aa) false, .ro 2 (enc e2 oo) false, .ro 2 (enc e2 rr) false], .agg [.int .i64 m, .ro 2 (enc e2 aa') false, .ro 2 (enc e2 oo') false, .ro 2 (enc e2 rr') false]] =
      some (.bool (decide (n = m) && (decide (aa = aa') && (decide (oo = oo') && decide (rr = rr'))))) := by
  have h1 := FV_of (F_same aa aa' ha ha')
  have h2 := FV_of (F_EQU oo oo' ho ho')
  have h3 := FV_of (F_EQU rr rr' hr hr')
  simp at h1 h2 h3
  by_cases x1 : n = m
  · by_cases x2 : aa = aa'
    · by_cases x3 : oo = oo'
      · simp only [x1, x2, x3, decide_true, Bool.true_and] at h1 h2 ⊢
        refine FV_W T98 (r := ?r22) (W_fin (ex := .ret) (by simp [c98, c98_b, x1, x2, x3, h1, h2, h3]; with_reducible rfl) (by simp) (by first | (simp [c98]; done) | (simp [c98]; with_reducible rfl))) (by simp)
      · simp only [x1, x2, x3, decide_true, decide_false, Bool.true_and, Bool.false_and] at h1 h2 ⊢
        refine FV_W T98 (r := ?r23) (W_fin (ex := .ret) (by simp [c98, c98_b, x1, x2, x3, h1, h2]; with_reducible rfl) (by simp) (by first | (simp [c98]; done) | (simp [c98]; with_reducible rfl))) (by simp)
    · simp only [x1, x2, decide_true, decide_false, Bool.true_and, Bool.false_and] at h1 ⊢
      refine FV_W T98 (r := ?r24) (W_fin (ex := .ret) (by simp [c98, c98_b, x1, x2, h1]; with_reducible rfl) (by simp) (by first | (simp [c98]; done) | (simp [c98]; with_reducible rfl))) (by simp)
  · simp only [x1, decide_false, Bool.false_and]
    refine FV_W T98 (r := ?r25) (W_fin (ex := .ret) (by simp [c98, c98_b, x1]; with_reducible rfl) (by simp) (by first | (simp [c98]; done) | (simp [c98]; with_reducible rfl))) (by simp)

theorem V_R30same (n m : Int) (aa oo rr aa' oo' rr' : List P2) (ha : aa.length ≤ 1000000) (ho : oo.length ≤ 1000000) (hr : rr.length ≤ 1000000) (ha' : aa'.length ≤ 1000000) (ho' : oo'.length ≤ 1000000) (hr' : rr'.length ≤ 1000000) :
    FV (F T) 99 [.agg [.int .i64 n, .ro 2 (enc e2 aa) false, .ro 2 (enc e2 oo) false, .ro 2 (enc e2 rr) false], .agg [.int .i64 m, .ro 2 (enc e2 aa') false, .ro 2 (enc e2 oo') false, .ro 2 (enc e2 rr') false]] =
      some (.bool (decide (n = m) && (decide (aa = aa') && (decide (oo = oo') && decide (rr = rr'))))) := by
  have h1 := FV_of (F_R29_Same aa aa' ha ha')
  have h2 := FV_of (F_R30_Tasks oo oo' ho ho')
  have h3 := FV_of (F_R30_Tasks rr rr' hr hr')
  simp at h1 h2 h3
  by_cases x1 : n = m
  · by_cases x2 : aa = aa'
    · by_cases x3 : oo = oo'
      · simp only [x1, x2, x3, decide_true, Bool.true_and] at h1 h2 ⊢
        refine FV_W T99 (r := ?r26) (W_fin (ex := .ret) (by simp [c99, c99_b, x1, x2, x3, h1, h2, h3]; with_reducible rfl) (by simp) (by first | (simp [c99]; done) | (simp [c99]; with_reducible rfl))) (by simp)
      · simp only [x1, x2, x3, decide_true, decide_false, Bool.true_and, Bool.false_and] at h1 h2 ⊢
        refine FV_W T99 (r := ?r27) (W_fin (ex := .ret) (by simp [c99, c99_b, x1, x2, x3, h1, h2]; with_reducible rfl) (by simp) (by first | (simp [c99]; done) | (simp [c99]; with_reducible rfl))) (by simp)
    · simp only [x1, x2, decide_true, decide_false, Bool.true_and, Bool.false_and] at h1 ⊢
      refine FV_W T99 (r := ?r28) (W_fin (ex := .ret) (by simp [c99, c99_b, x1, x2, h1]; with_reducible rfl) (by simp) (by first | (simp [c99]; done) | (simp [c99]; with_reducible rfl))) (by simp)
  · simp only [x1, decide_false, Bool.false_and]
    refine FV_W T99 (r := ?r29) (W_fin (ex := .ret) (by simp [c99, c99_b, x1]; with_reducible rfl) (by simp) (by first | (simp [c99]; done) | (simp [c99]; with_reducible rfl))) (by simp)

theorem V_is (n : Int) (aa oo rr : List P2) (ha : aa.length ≤ 1000000) (ho : oo.length ≤ 1000000) (hr : rr.length ≤ 1000000) :
    FV (F T) 91 [.agg [.int .i64 n, .ro 2 (enc e2 aa) false, .ro 2 (enc e2 oo) false, .ro 2 (enc e2 rr) false], .agg [.int .i64 n, .ro 2 (enc e2 aa) false, .ro 2 (enc e2 oo) false, .ro 2 (enc e2 rr) false]] = some (.bool true) := by
  have h1 := FV_of (F_L29_Is aa aa ha ha)
  have h2 := FV_of (F_R30_Tasks oo oo ho ho)
  have h3 := FV_of (F_R30_Tasks rr rr hr hr)
  simp at h1 h2 h3
  refine FV_W T91 (r := ?r30) (W_fin (ex := .ret) (by simp [c91, c91_b, h1, h2, h3]; with_reducible rfl) (by simp) (by first | (simp [c91]; done) | (simp [c91]; with_reducible rfl))) (by simp)

theorem V_of30 (n : Int) (aa oo rr : List P2) (ha : aa.length ≤ 1000000) (ho : oo.length ≤ 1000000) (hr : rr.length ≤ 1000000) :
    FV (F T) 88 [.agg [.int .i64 n, .ro 2 (enc e2 aa) false, .ro 2 (enc e2 oo) false, .ro 2 (enc e2 rr) false]] = some (.agg [.int .i64 n, .ro 2 (enc e2 aa) false, .ro 2 (enc e2 oo) false, .ro 2 (enc e2 rr) false]) := by
  have h1 := FV_of (F_L29_Of aa ha)
  rw [flatMap_one, List.map_id'] at h1
  have hb3 : oo.length * 16 ≤ 140737488355328 := by omega
  have hb4 : oo.length ≤ 140737488355328 := by omega
  have hb5 : rr.length * 16 ≤ 140737488355328 := by omega
  have hb6 : rr.length ≤ 140737488355328 := by omega
  simp at h1
  refine FV_W T88 (r := ?r31) (W_fin (ex := .ret) (by simp [c88, c88_b, h1, hb3, hb4, hb5, hb6]; with_reducible rfl) (by simp) (by first | (simp [c88]; done) | (simp [c88]; with_reducible rfl))) (by simp)

end Go.Proofs.Ytnobgooojbppbaa.Slots
