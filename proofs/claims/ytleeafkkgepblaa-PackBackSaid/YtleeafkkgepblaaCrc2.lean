/- Sums of bytes: sealed bytes, and the document's functions. -/
import Derived.Test.YtleeafkkgepblaaCrc
set_option linter.all false
set_option linter.unusedSimpArgs false
set_option maxRecDepth 100000
set_option maxHeartbeats 4000000
namespace Go.Proofs.Ytleeafkkgepblaa.CrcC
open Go Go.RowKit Go.Proofs.Ytleeafkkgepblaa.Lift Go.Proofs.Ytleeafkkgepblaa.TPB Go.Proofs.Ytleeafkkgepblaa.Base Go.Proofs.Ytleeafkkgepblaa

theorem f_byte (s : BitVec 32) (i : Nat) (h : i < 4) : IntKind.u8.wrap ((Crc.I s).fdiv (2 ^ (min (8 * (i : Int)).toNat IntKind.u32.bits))) = Crc.byteAt s i := by
  have e : min (8 * (i : Int)).toNat IntKind.u32.bits = 8 * i := by rw [show IntKind.u32.bits = 32 from rfl]; omega
  rw [e, Int.fdiv_eq_ediv_of_nonneg _ (Int.le_of_lt (Int.pow_pos (by omega))), IntKind.wrap_u8]
  rfl

theorem four_drop (s : BitVec 32) (i : Nat) (h : i < 4) : (Crc.four s).drop i = Crc.byteAt s i :: (Crc.four s).drop (i + 1) := by
  have : i = 0 ∨ i = 1 ∨ i = 2 ∨ i = 3 := by omega
  rcases this with rfl | rfl | rfl | rfl <;> rfl

theorem seal_loop (s : BitVec 32) : ∀ (d i : Nat) (l : List Int) (st : ASt), i + d = 4 → l.length + d ≤ 2000000 → canon [3, 4, 14] st = ⟨[.top, .top, .top, .int .u32 (Crc.I s), .own 0 0 l.length, .top, .top, .top, .top, .top, .top, .top, .top, .top, .int .i64 i, .top, .top, .top, .top, .top, .top, .top, .top, .top, .top, .top, .top], [(0, ⟨5, 1, false, enc (eInt .u8) l, 0⟩)], 1, 0⟩ →
    W T c49_k0 st (Lift.Fin c49 (.own 0 0 (l ++ (Crc.four s).drop i).length, [⟨5, 1, false, enc (eInt .u8) (l ++ (Crc.four s).drop i), 0⟩])) := by
  intro d
  induction d with
  | zero =>
    intro i l st hi hl hc
    obtain rfl : i = 4 := by omega
    rw [show (Crc.four s).drop 4 = [] from rfl, List.append_nil]
    generalize Crc.I s = x at *
    unfold c49_k0
    refine W_round hc ?_
    unfold c49_l0
    repeat (first | refine W_assoc ?_ | (show W _ (.seq (.region _ _) _) _ _; refine W_reg (by simp; with_reducible rfl) ?_) | (show R _ _ _ (_ :: _) _ _ _ _; refine R_op (by simp (maxSteps := 2000000); with_reducible rfl) ?_) | (show R _ _ _ [] _ _ _ _; refine R_nil (by simp; with_reducible rfl) ?_) | (show W _ (.seq (.cond _ _ _) _) _ _; first | refine W_ct (by first | (simp; done) | fail) ?_ | refine W_cf (by first | (simp; done) | fail) ?_) | refine W_skip ?_ | refine W_bl (c := .seq _ _) ?_ | refine W_bl (c := .region _ _) ?_ | refine W_bl (c := .cond _ _ _) ?_ | refine W_bl (c := .block _ _) ?_ | refine W_rt ?_ | refine W_ex ?_ | refine W_end ?_ | refine W_tail (a := .region _ _) ?_ | refine W_tail (a := .cond _ _ _) ?_ | refine W_tail (a := .ret) ?_ | refine W_tail (a := .exit _) ?_ | refine W_tail (a := .block _ _) ?_ | refine QB_normal ?_ | refine QB_exit ?_ | refine QB_ret ?_ | refine QB_out (by decide) ?_ | refine QL_next ?_ | refine QL_exit ?_ | refine QL_ret ?_ | refine QL_out (by decide) ?_ | (show Fin _ _ .ret _; exact Fin_ret (by first | (simp [c49]; done) | (simp [c49]; with_reducible rfl))) | (show Fin _ _ .normal _; exact Fin_end (by first | (simp [c49]; done) | (simp [c49]; with_reducible rfl))))
  | succ d ih =>
    intro i l st hi hl hc
    have h1 : (i : Int) < 4 := by omega
    have h1' : i < 4 := by omega
    have hw := wrapS i 4 h1' (by omega)
    have hw8 : IntKind.i64.wrap (8 * (i : Int)) = 8 * (i : Int) := by rw [wrap_i64 _ (by omega) (by omega)]
    have h0 : ¬ 8 * (i : Int) < 0 := by omega
    have g1 := f_byte s i h1'
    have e8 : ¬ (l.length + 1 ≤ l.length ∧ 0 < l.length) := by omega
    have e9 : l.length + 1 ≤ 140737488355328 := by omega
    have ih' := ih (i + 1) (l ++ [Crc.byteAt s i])
    rw [List.append_assoc, List.cons_append, List.nil_append] at ih'
    rw [four_drop s i h1']
    generalize Crc.byteAt s i = y at *
    generalize (Crc.four s).drop (i + 1) = z at *
    generalize Crc.I s = x at *
    unfold c49_k0
    refine W_round hc ?_
    unfold c49_l0
    repeat (first | refine W_assoc ?_ | (show W _ (.seq (.region _ _) _) _ _; refine W_reg (by simp; with_reducible rfl) ?_) | (show R _ _ _ (_ :: _) _ _ _ _; refine R_op (by simp (maxSteps := 2000000) [h1, h1', hw, hw8, h0, g1, e8, e9]; with_reducible rfl) ?_) | (show R _ _ _ [] _ _ _ _; refine R_nil (by simp; with_reducible rfl) ?_) | (show W _ (.seq (.cond _ _ _) _) _ _; first | refine W_ct (by first | (simp [h1, h1', hw, hw8, h0, g1, e8, e9]; done) | fail) ?_ | refine W_cf (by first | (simp [h1, h1', hw, hw8, h0, g1, e8, e9]; done) | fail) ?_) | refine W_skip ?_ | refine W_bl (c := .seq _ _) ?_ | refine W_bl (c := .region _ _) ?_ | refine W_bl (c := .cond _ _ _) ?_ | refine W_bl (c := .block _ _) ?_ | refine W_rt ?_ | refine W_ex ?_ | refine W_end ?_ | refine W_tail (a := .region _ _) ?_ | refine W_tail (a := .cond _ _ _) ?_ | refine W_tail (a := .ret) ?_ | refine W_tail (a := .exit _) ?_ | refine W_tail (a := .block _ _) ?_ | refine QB_normal ?_ | refine QB_exit ?_ | refine QB_ret ?_ | refine QB_out (by decide) ?_ | refine QL_next ?_ | refine QL_exit ?_ | refine QL_ret ?_ | refine QL_out (by decide) ?_ | (show Fin _ _ .ret _; exact Fin_ret (by first | (simp; done) | (simp; with_reducible rfl))) | (show Fin _ _ .normal _; exact Fin_end (by first | (simp; done) | (simp; with_reducible rfl))))
    refine ih' _ ?_ ?_ ?_
    · omega
    · simp; omega
    · simp; try rfl

theorem F_Seal (l : List Int) (hl : l.length ≤ 1000000) (hb : ∀ a ∈ l, 0 ≤ a ∧ a ≤ 255) : F T 49 [.ro 1 (enc (eInt .u8) l) false] [] = some (.own 0 0 (l ++ Crc.four (Crc.crc l)).length, [⟨5, 1, false, enc (eInt .u8) (l ++ Crc.four (Crc.crc l)), 0⟩]) := by
  have v1 := V_Of l hl hb
  have hL := seal_loop (Crc.crc l) 4 0 l
  rw [List.drop_zero] at hL
  have e0 : IntKind.i64.wrap ((l.length : Int) + 4) = (l.length : Int) + 4 := by rw [wrap_i64 _ (by omega) (by omega)]
  have e1 : (0 : Int) ≤ (l.length : Int) + 4 := by omega
  have e2' : ((l.length : Int) + 4).toNat ≤ 140737488355328 := by omega
  have e3 : l.length ≤ 140737488355328 := by omega
  have e4 : IntKind.i64.wrap 4 = 4 := rfl
  generalize Crc.four (Crc.crc l) = z at *
  generalize Crc.I (Crc.crc l) = x at *
  refine F_W T49 ?_
  simp only [c49, c49_b, Lift.start]
  by_cases hn : l = []
  · subst hn
    simp only [enc_nil] at v1 ⊢
    repeat (first | refine W_assoc ?_ | (show W _ (.seq (.region _ _) _) _ _; refine W_reg (by simp; with_reducible rfl) ?_) | (show R _ _ _ (_ :: _) _ _ _ _; refine R_op (by simp (maxSteps := 2000000) [v1, e4]; with_reducible rfl) ?_) | (show R _ _ _ [] _ _ _ _; refine R_nil (by simp; with_reducible rfl) ?_) | (show W _ (.seq (.cond _ _ _) _) _ _; first | refine W_ct (by first | (simp [v1, e4]; done) | fail) ?_ | refine W_cf (by first | (simp [v1, e4]; done) | fail) ?_) | refine W_skip ?_ | refine W_bl (c := .seq _ _) ?_ | refine W_bl (c := .region _ _) ?_ | refine W_bl (c := .cond _ _ _) ?_ | refine W_bl (c := .block _ _) ?_ | refine W_rt ?_ | refine W_ex ?_ | refine W_end ?_ | refine W_tail (a := .region _ _) ?_ | refine W_tail (a := .cond _ _ _) ?_ | refine W_tail (a := .ret) ?_ | refine W_tail (a := .exit _) ?_ | refine W_tail (a := .block _ _) ?_ | refine QB_normal ?_ | refine QB_exit ?_ | refine QB_ret ?_ | refine QB_out (by decide) ?_ | refine QL_next ?_ | refine QL_exit ?_ | refine QL_ret ?_ | refine QL_out (by decide) ?_ | (show Fin _ _ .ret _; exact Fin_ret (by first | (simp; done) | (simp; with_reducible rfl))) | (show Fin _ _ .normal _; exact Fin_end (by first | (simp; done) | (simp; with_reducible rfl))))
    refine hL _ ?_ ?_ ?_
    · omega
    · simp
    · simp; try rfl
  · have hp : 0 < l.length := List.length_pos_iff.2 hn
    repeat (first | refine W_assoc ?_ | (show W _ (.seq (.region _ _) _) _ _; refine W_reg (by simp; with_reducible rfl) ?_) | (show R _ _ _ (_ :: _) _ _ _ _; refine R_op (by simp (maxSteps := 2000000) [v1, e0, e1, e2', e3, hn, hp]; with_reducible rfl) ?_) | (show R _ _ _ [] _ _ _ _; refine R_nil (by simp; with_reducible rfl) ?_) | (show W _ (.seq (.cond _ _ _) _) _ _; first | refine W_ct (by first | (simp [v1, e0, e1, e2', e3, hn, hp]; done) | fail) ?_ | refine W_cf (by first | (simp [v1, e0, e1, e2', e3, hn, hp]; done) | fail) ?_) | refine W_skip ?_ | refine W_bl (c := .seq _ _) ?_ | refine W_bl (c := .region _ _) ?_ | refine W_bl (c := .cond _ _ _) ?_ | refine W_bl (c := .block _ _) ?_ | refine W_rt ?_ | refine W_ex ?_ | refine W_end ?_ | refine W_tail (a := .region _ _) ?_ | refine W_tail (a := .cond _ _ _) ?_ | refine W_tail (a := .ret) ?_ | refine W_tail (a := .exit _) ?_ | refine W_tail (a := .block _ _) ?_ | refine QB_normal ?_ | refine QB_exit ?_ | refine QB_ret ?_ | refine QB_out (by decide) ?_ | refine QL_next ?_ | refine QL_exit ?_ | refine QL_ret ?_ | refine QL_out (by decide) ?_ | (show Fin _ _ .ret _; exact Fin_ret (by first | (simp; done) | (simp; with_reducible rfl))) | (show Fin _ _ .normal _; exact Fin_end (by first | (simp; done) | (simp; with_reducible rfl))))
    refine hL _ ?_ ?_ ?_
    · omega
    · omega
    · simp; try rfl

theorem open_loop (l : List Int) (n : Nat) (s : BitVec 32) (hn : n + 4 = l.length) (hl : l.length ≤ 1000000) : ∀ (d i : Nat) (st : ASt), i + d = 4 → canon [0, 4, 5, 16] st = ⟨[.ro 1 (enc (eInt .u8) l) false, .top, .top, .top, .int .i64 n, .int .u32 (Crc.I s), .top, .top, .top, .top, .top, .top, .top, .top, .top, .top, .int .i64 i, .top, .top, .top, .top, .top, .top, .top, .top, .top, .top, .top, .top, .top, .top, .top, .top, .top, .top, .top, .top], [], 0, 0⟩ →
    W T c46_k0 st (Lift.Fin c46 (if l.drop (n + i) = (Crc.four s).drop i then (.tup [.own 0 0 n, .bool true], [⟨5, 1, false, enc (eInt .u8) (l.take n), 0⟩]) else (.tup [.own 0 0 0, .bool false], [⟨5, 1, false, [], 0⟩]))) := by
  intro d
  induction d with
  | zero =>
    intro i st hi hc
    obtain rfl : i = 4 := by omega
    have e1 : (n : Int) ≤ l.length := by omega
    have e2 : n ≤ l.length := by omega
    have e3 : n ≤ 140737488355328 := by omega
    have e4 : min n l.length = n := by omega
    rw [List.drop_of_length_le (by omega), show (Crc.four s).drop 4 = [] from rfl, if_pos rfl]
    generalize Crc.I s = x at *
    unfold c46_k0
    refine W_round hc ?_
    unfold c46_l0
    repeat (first | refine W_assoc ?_ | (show W _ (.seq (.region _ _) _) _ _; refine W_reg (by simp; with_reducible rfl) ?_) | (show R _ _ _ (_ :: _) _ _ _ _; refine R_op (by simp (maxSteps := 2000000) [e1, e2, e3, e4]; with_reducible rfl) ?_) | (show R _ _ _ [] _ _ _ _; refine R_nil (by simp; with_reducible rfl) ?_) | (show W _ (.seq (.cond _ _ _) _) _ _; first | refine W_ct (by first | (simp [e1, e2, e3, e4]; done) | fail) ?_ | refine W_cf (by first | (simp [e1, e2, e3, e4]; done) | fail) ?_) | refine W_skip ?_ | refine W_bl (c := .seq _ _) ?_ | refine W_bl (c := .region _ _) ?_ | refine W_bl (c := .cond _ _ _) ?_ | refine W_bl (c := .block _ _) ?_ | refine W_rt ?_ | refine W_ex ?_ | refine W_end ?_ | refine W_tail (a := .region _ _) ?_ | refine W_tail (a := .cond _ _ _) ?_ | refine W_tail (a := .ret) ?_ | refine W_tail (a := .exit _) ?_ | refine W_tail (a := .block _ _) ?_ | refine QB_normal ?_ | refine QB_exit ?_ | refine QB_ret ?_ | refine QB_out (by decide) ?_ | refine QL_next ?_ | refine QL_exit ?_ | refine QL_ret ?_ | refine QL_out (by decide) ?_ | (show Fin _ _ .ret _; exact Fin_ret (by first | (simp [c46, e4]; done) | (simp [c46, e4]; with_reducible rfl))) | (show Fin _ _ .normal _; exact Fin_end (by first | (simp [c46, e4]; done) | (simp [c46, e4]; with_reducible rfl))))
  | succ d ih =>
    intro i st hi hc
    have h1 : (i : Int) < 4 := by omega
    have h1' : i < 4 := by omega
    have hlt : n + i < l.length := by omega
    have hw := wrapS i 4 h1' (by omega)
    have hw8 : IntKind.i64.wrap (8 * (i : Int)) = 8 * (i : Int) := by rw [wrap_i64 _ (by omega) (by omega)]
    have hwn : IntKind.i64.wrap ((n : Int) + i) = (n : Int) + i := by rw [wrap_i64 _ (by omega) (by omega)]
    have h0 : ¬ 8 * (i : Int) < 0 := by omega
    have h2 : (0 : Int) ≤ (n : Int) + i := by omega
    have h3 : (n : Int) + i < l.length := by omega
    have h4 : ((n : Int) + i).toNat = n + i := by omega
    have g1 := f_byte s i h1'
    have ih' := ih (i + 1)
    rw [four_drop s i h1', List.drop_eq_getElem_cons hlt]
    rw [show n + (i + 1) = n + i + 1 by omega] at ih'
    have hy : ∃ y, y = l[n + i] := ⟨_, rfl⟩
    obtain ⟨y, hy⟩ := hy
    rw [← hy]
    generalize hb : Crc.byteAt s i = b at *
    generalize (Crc.four s).drop (i + 1) = z at *
    generalize Crc.I s = x at *
    unfold c46_k0
    refine W_round hc ?_
    unfold c46_l0
    by_cases hq : y = b
    · subst hq
      simp only [List.cons.injEq, true_and]
      repeat (first | refine W_assoc ?_ | (show W _ (.seq (.region _ _) _) _ _; refine W_reg (by simp; with_reducible rfl) ?_) | (show R _ _ _ (_ :: _) _ _ _ _; refine R_op (by simp (maxSteps := 2000000) [h1, h1', hw, hw8, hwn, h0, h2, h3, h4, g1, hlt, ← hy]; with_reducible rfl) ?_) | (show R _ _ _ [] _ _ _ _; refine R_nil (by simp; with_reducible rfl) ?_) | (show W _ (.seq (.cond _ _ _) _) _ _; first | refine W_ct (by first | (simp [h1, h1', hw, hw8, hwn, h0, h2, h3, h4, g1, hlt, ← hy]; done) | fail) ?_ | refine W_cf (by first | (simp [h1, h1', hw, hw8, hwn, h0, h2, h3, h4, g1, hlt, ← hy]; done) | fail) ?_) | refine W_skip ?_ | refine W_bl (c := .seq _ _) ?_ | refine W_bl (c := .region _ _) ?_ | refine W_bl (c := .cond _ _ _) ?_ | refine W_bl (c := .block _ _) ?_ | refine W_rt ?_ | refine W_ex ?_ | refine W_end ?_ | refine W_tail (a := .region _ _) ?_ | refine W_tail (a := .cond _ _ _) ?_ | refine W_tail (a := .ret) ?_ | refine W_tail (a := .exit _) ?_ | refine W_tail (a := .block _ _) ?_ | refine QB_normal ?_ | refine QB_exit ?_ | refine QB_ret ?_ | refine QB_out (by decide) ?_ | refine QL_next ?_ | refine QL_exit ?_ | refine QL_ret ?_ | refine QL_out (by decide) ?_ | (show Fin _ _ .ret _; exact Fin_ret (by first | (simp; done) | (simp; with_reducible rfl))) | (show Fin _ _ .normal _; exact Fin_end (by first | (simp; done) | (simp; with_reducible rfl))))
      refine ih' _ ?_ ?_
      · omega
      · simp; try rfl
    · rw [if_neg (by rintro e; injection e with e _; exact hq e)]
      repeat (first | refine W_assoc ?_ | (show W _ (.seq (.region _ _) _) _ _; refine W_reg (by simp; with_reducible rfl) ?_) | (show R _ _ _ (_ :: _) _ _ _ _; refine R_op (by simp (maxSteps := 2000000) [h1, h1', hw, hw8, hwn, h0, h2, h3, h4, g1, hlt, ← hy, hq]; with_reducible rfl) ?_) | (show R _ _ _ [] _ _ _ _; refine R_nil (by simp; with_reducible rfl) ?_) | (show W _ (.seq (.cond _ _ _) _) _ _; first | refine W_ct (by first | (simp [h1, h1', hw, hw8, hwn, h0, h2, h3, h4, g1, hlt, ← hy, hq]; done) | fail) ?_ | refine W_cf (by first | (simp [h1, h1', hw, hw8, hwn, h0, h2, h3, h4, g1, hlt, ← hy, hq]; done) | fail) ?_) | refine W_skip ?_ | refine W_bl (c := .seq _ _) ?_ | refine W_bl (c := .region _ _) ?_ | refine W_bl (c := .cond _ _ _) ?_ | refine W_bl (c := .block _ _) ?_ | refine W_rt ?_ | refine W_ex ?_ | refine W_end ?_ | refine W_tail (a := .region _ _) ?_ | refine W_tail (a := .cond _ _ _) ?_ | refine W_tail (a := .ret) ?_ | refine W_tail (a := .exit _) ?_ | refine W_tail (a := .block _ _) ?_ | refine QB_normal ?_ | refine QB_exit ?_ | refine QB_ret ?_ | refine QB_out (by decide) ?_ | refine QL_next ?_ | refine QL_exit ?_ | refine QL_ret ?_ | refine QL_out (by decide) ?_ | (show Fin _ _ .ret _; exact Fin_ret (by first | (simp [c46]; done) | (simp [c46]; with_reducible rfl))) | (show Fin _ _ .normal _; exact Fin_end (by first | (simp [c46]; done) | (simp [c46]; with_reducible rfl))))

/-- Are bytes sealed? -/
def sealed (l : List Int) : Bool := decide (4 ≤ l.length) && decide (l.drop (l.length - 4) = Crc.four (Crc.crc (l.take (l.length - 4))))

theorem F_Open (l : List Int) (hl : l.length ≤ 1000000) (hb : ∀ a ∈ l, 0 ≤ a ∧ a ≤ 255) : F T 46 [.ro 1 (enc (eInt .u8) l) false] [] = some (if sealed l = true then (.tup [.own 0 0 (l.length - 4), .bool true], [⟨5, 1, false, enc (eInt .u8) (l.take (l.length - 4)), 0⟩]) else (.tup [.own 0 0 0, .bool false], [⟨5, 1, false, [], 0⟩])) := by
  have e0 : IntKind.i64.wrap ((l.length : Int) - 4) = (l.length : Int) - 4 := by rw [wrap_i64 _ (by omega) (by omega)]
  unfold sealed
  refine F_W T46 ?_
  simp only [c46, c46_b, Lift.start]
  by_cases h4 : 4 ≤ l.length
  · have hn1 : ¬ (l.length : Int) - 4 < 0 := by omega
    have hn2 : l.length - 4 ≤ l.length := by omega
    have hn3 : (l.length : Int) - 4 = ((l.length - 4 : Nat) : Int) := by omega
    have v1 := V_Of (l.take (l.length - 4)) (by simp; omega) (fun a ha => hb a (List.mem_of_mem_take ha))
    have hL := fun st h => open_loop l (l.length - 4) (Crc.crc (l.take (l.length - 4))) (by omega) hl 4 0 st rfl h
    simp only [Nat.add_zero, List.drop_zero] at hL
    simp only [h4, decide_true, Bool.true_and, decide_eq_true_eq]
    rw [hn3] at e0
    generalize Crc.four (Crc.crc (l.take (l.length - 4))) = z at *
    generalize Crc.I (Crc.crc (l.take (l.length - 4))) = x at *
    have hn4 : ((l.length - 4 : Nat) : Int) ≤ l.length := by omega
    have hn5 : ¬ ((l.length - 4 : Nat) : Int) < 0 := by omega
    generalize l.length - 4 = n at *
    repeat (first | refine W_assoc ?_ | (show W _ (.seq (.region _ _) _) _ _; refine W_reg (by simp; with_reducible rfl) ?_) | (show R _ _ _ (_ :: _) _ _ _ _; refine R_op (by simp (maxSteps := 2000000) [hn3, e0, hn4, hn5, hn2, v1]; with_reducible rfl) ?_) | (show R _ _ _ [] _ _ _ _; refine R_nil (by simp; with_reducible rfl) ?_) | (show W _ (.seq (.cond _ _ _) _) _ _; first | refine W_ct (by first | (simp [hn3, e0, hn4, hn5, hn2, v1]; done) | fail) ?_ | refine W_cf (by first | (simp [hn3, e0, hn4, hn5, hn2, v1]; done) | fail) ?_) | refine W_skip ?_ | refine W_bl (c := .seq _ _) ?_ | refine W_bl (c := .region _ _) ?_ | refine W_bl (c := .cond _ _ _) ?_ | refine W_bl (c := .block _ _) ?_ | refine W_rt ?_ | refine W_ex ?_ | refine W_end ?_ | refine W_tail (a := .region _ _) ?_ | refine W_tail (a := .cond _ _ _) ?_ | refine W_tail (a := .ret) ?_ | refine W_tail (a := .exit _) ?_ | refine W_tail (a := .block _ _) ?_ | refine QB_normal ?_ | refine QB_exit ?_ | refine QB_ret ?_ | refine QB_out (by decide) ?_ | refine QL_next ?_ | refine QL_exit ?_ | refine QL_ret ?_ | refine QL_out (by decide) ?_ | (show Fin _ _ .ret _; exact Fin_ret (by first | (simp; done) | (simp; with_reducible rfl))) | (show Fin _ _ .normal _; exact Fin_end (by first | (simp; done) | (simp; with_reducible rfl))))
    refine hL _ ?_
    simp; try rfl
  · have hn1 : (l.length : Int) - 4 < 0 := by omega
    rw [if_neg (by simp [h4])]
    repeat (first | refine W_assoc ?_ | (show W _ (.seq (.region _ _) _) _ _; refine W_reg (by simp; with_reducible rfl) ?_) | (show R _ _ _ (_ :: _) _ _ _ _; refine R_op (by simp (maxSteps := 2000000) [e0, hn1]; with_reducible rfl) ?_) | (show R _ _ _ [] _ _ _ _; refine R_nil (by simp; with_reducible rfl) ?_) | (show W _ (.seq (.cond _ _ _) _) _ _; first | refine W_ct (by first | (simp [e0, hn1]; done) | fail) ?_ | refine W_cf (by first | (simp [e0, hn1]; done) | fail) ?_) | refine W_skip ?_ | refine W_bl (c := .seq _ _) ?_ | refine W_bl (c := .region _ _) ?_ | refine W_bl (c := .cond _ _ _) ?_ | refine W_bl (c := .block _ _) ?_ | refine W_rt ?_ | refine W_ex ?_ | refine W_end ?_ | refine W_tail (a := .region _ _) ?_ | refine W_tail (a := .cond _ _ _) ?_ | refine W_tail (a := .ret) ?_ | refine W_tail (a := .exit _) ?_ | refine W_tail (a := .block _ _) ?_ | refine QB_normal ?_ | refine QB_exit ?_ | refine QB_ret ?_ | refine QB_out (by decide) ?_ | refine QL_next ?_ | refine QL_exit ?_ | refine QL_ret ?_ | refine QL_out (by decide) ?_ | (show Fin _ _ .ret _; exact Fin_ret (by first | (simp [c46]; done) | (simp [c46]; with_reducible rfl))) | (show Fin _ _ .normal _; exact Fin_end (by first | (simp [c46]; done) | (simp [c46]; with_reducible rfl))))

end Go.Proofs.Ytleeafkkgepblaa.CrcC
