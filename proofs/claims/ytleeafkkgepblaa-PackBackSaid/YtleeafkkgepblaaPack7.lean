/- Packets: there and back, and with bits turned. -/
import Derived.Test.YtleeafkkgepblaaPack6
import Derived.Test.YtleeafkkgepblaaFrame4
set_option linter.all false
set_option linter.unusedSimpArgs false
set_option maxRecDepth 100000
set_option maxHeartbeats 8000000
namespace Go.Proofs.Ytleeafkkgepblaa.Oct
open Go Go.RowKit Go.Proofs.Ytleeafkkgepblaa.Lift Go.Proofs.Ytleeafkkgepblaa.TPB Go.Proofs.Ytleeafkkgepblaa.Base Go.Proofs.Ytleeafkkgepblaa Go.Proofs.Ytleeafkkgepblaa.CrcC

theorem tmod_nat (a b : Nat) : (a : Int).tmod (b : Int) = ((a % b : Nat) : Int) := by rw [Int.tmod_eq_emod_of_nonneg (by omega)]; simp

theorem body_rg (p : Pk) (h : chkP p = true) (hs : ∀ a ∈ frameB (bytesP p), 0 ≤ a ∧ a ≤ 255) : ∀ a ∈ p.body, 0 ≤ a ∧ a ≤ 255 := by
  by_cases hb : hB p.kind = true
  · intro a ha
    refine hs a ?_
    unfold frameB textB bytesP tb textB
    rw [if_pos hb]
    simp only [List.mem_append]
    simp [ha]
  · have h2 : p.body = [] := by
      unfold chkP at h
      simp only [Bool.and_eq_true] at h
      obtain ⟨-, -, -, -, -, -, -, -, -, -, -, h⟩ := h
      rw [Bool.not_eq_true] at hb
      rw [hb] at h
      simpa using h
    rw [h2]
    simp

theorem pb_loop (p : Pk) (h : chkP p = true) (hb : ∀ x ∈ p.body, 0 ≤ x ∧ x ≤ 255) (t0 t1 : Nat) (ht1 : t1 < 4294967296) (G : List Int) (hF : G = frameB (bytesP p)) (hFl : 9 ≤ G.length) (hFm : G.length ≤ 200) (bits a : Nat) (hbits : bits + 8 = 8 * G.length) :
    ∀ (n i : Nat) (X : List Int) (tr : Bool) (st : ASt), i + n = 32 → a + i ≤ bits → Turn G t1 a i X → (tr = true → 0 < t1 % 2 ^ i) → (tr = false → X = G) →
      canon [5, 9, 12, 13, 14, 15] st = ⟨[.top, .top, .top, .top, .top, .ref 0 0 0, .top, .top, .top, .own 1 0 X.length, .top, .top, .int .i64 bits, .int .i64 a, .bool tr, .int .i64 i, .top, .top, .top, .top, .top, .top, .top, .top, .top, .top, .top, .top, .top, .top, .top, .top, .top, .top, .top, .top, .top, .top, .top, .top, .top, .top, .top, .top, .top, .top, .top, .top, .top, .top, .top, .top, .top, .top, .top, .top, .top, .top, .top, .top, .top, .top, .top, .top, .top, .top, .top, .top, .top, .top, .top, .top, .top, .top, .top, .top, .top, .top, .top, .top, .top, .top, .top, .top, .top, .top, .top, .top, .top, .top, .top, .top, .top, .top, .top, .top, .top, .top, .top, .top, .top, .top, .top, .top, .top, .top, .top, .top, .top, .top, .top, .top, .top, .top, .top, .top, .top, .top, .top, .top, .top, .top, .top, .top, .top, .top, .top, .top, .top, .top, .top, .top, .top, .top, .top, .top, .top, .top], [(0, ⟨25, 2, true, [[.int .u32 t0, .int .u32 t1]], 0⟩), (1, ⟨5, 1, false, enc (eInt .u8) X, 0⟩)], 2, 0⟩ →
      W T c3_k0 st (Lift.Fin c3 (.bool true, [])) := by
  have key : ∀ (i : Nat) (X : List Int) (tr : Bool), i ≤ 32 → Turn G t1 a i X → (tr = true → 0 < t1 % 2 ^ i) → (tr = false → X = G) → ∃ q e, FV (F T) 6 [.str (bs X)] = some (.tup [.agg (pk q), .int .i64 e]) ∧ (tr = true → ¬ e = 0) ∧ (tr = false → e = 0) := by
    intro i X tr hi hT h1 h2
    have f1 := FV_of (F_POpen X hT.rg (by rw [hT.len]; omega))
    refine ⟨(openP X).1, (openP X).2, by simpa using f1, ?_, ?_⟩
    · intro htr
      subst hF
      have hl := bytesP_len p h
      have hc := cutP_turned (bytesP p) X [] t1 a i (by omega) (bytesP_range p h hb) hT (h1 htr) hi
      rw [List.append_nil] at hc
      unfold openP
      rw [if_pos hc]
      exact hc
    · intro htr
      rw [h2 htr, hF, openP_bytes p h]
  intro n
  induction n with
  | zero =>
    intro i X tr st hi hai hT h1 h2 hc
    obtain rfl : i = 32 := by omega
    obtain ⟨q, e, f1, g1, g2⟩ := key 32 X tr (by omega) hT h1 h2
    have hbx := sb_bs X hT.rg
    cases tr with
    | true =>
      have he := g1 rfl
      unfold c3_k0
      refine W_round hc ?_
      unfold c3_l0
      repeat (first | refine W_assoc ?_ | (show W _ (.seq (.region _ _) _) _ _; refine W_reg (by simp; with_reducible rfl) ?_) | (show R _ _ _ (_ :: _) _ _ _ _; refine R_op (by simp (maxSteps := 2000000) [f1, he, V_works23]; with_reducible rfl) ?_) | (show R _ _ _ [] _ _ _ _; refine R_nil (by simp; with_reducible rfl) ?_) | (show W _ (.seq (.cond _ _ _) _) _ _; first | refine W_ct (by first | (simp [f1, he, V_works23]; done) | fail) ?_ | refine W_cf (by first | (simp [f1, he, V_works23]; done) | fail) ?_) | refine W_skip ?_ | refine W_bl (c := .seq _ _) ?_ | refine W_bl (c := .region _ _) ?_ | refine W_bl (c := .cond _ _ _) ?_ | refine W_bl (c := .block _ _) ?_ | refine W_rt ?_ | refine W_ex ?_ | refine W_end ?_ | refine W_tail (a := .region _ _) ?_ | refine W_tail (a := .cond _ _ _) ?_ | refine W_tail (a := .ret) ?_ | refine W_tail (a := .exit _) ?_ | refine W_tail (a := .block _ _) ?_ | refine QB_normal ?_ | refine QB_exit ?_ | refine QB_ret ?_ | refine QB_out (by decide) ?_ | refine QL_next ?_ | refine QL_exit ?_ | refine QL_ret ?_ | refine QL_out (by decide) ?_ | (show Fin _ _ .ret _; exact Fin_ret (by first | (simp [c3]; done) | (simp [c3]; with_reducible rfl))) | (show Fin _ _ .normal _; exact Fin_end (by first | (simp [c3]; done) | (simp [c3]; with_reducible rfl))))
    | false =>
      obtain rfl := g2 rfl
      unfold c3_k0
      refine W_round hc ?_
      unfold c3_l0
      repeat (first | refine W_assoc ?_ | (show W _ (.seq (.region _ _) _) _ _; refine W_reg (by simp; with_reducible rfl) ?_) | (show R _ _ _ (_ :: _) _ _ _ _; refine R_op (by simp (maxSteps := 2000000) [f1, V_works23]; with_reducible rfl) ?_) | (show R _ _ _ [] _ _ _ _; refine R_nil (by simp; with_reducible rfl) ?_) | (show W _ (.seq (.cond _ _ _) _) _ _; first | refine W_ct (by first | (simp [f1, V_works23]; done) | fail) ?_ | refine W_cf (by first | (simp [f1, V_works23]; done) | fail) ?_) | refine W_skip ?_ | refine W_bl (c := .seq _ _) ?_ | refine W_bl (c := .region _ _) ?_ | refine W_bl (c := .cond _ _ _) ?_ | refine W_bl (c := .block _ _) ?_ | refine W_rt ?_ | refine W_ex ?_ | refine W_end ?_ | refine W_tail (a := .region _ _) ?_ | refine W_tail (a := .cond _ _ _) ?_ | refine W_tail (a := .ret) ?_ | refine W_tail (a := .exit _) ?_ | refine W_tail (a := .block _ _) ?_ | refine QB_normal ?_ | refine QB_exit ?_ | refine QB_ret ?_ | refine QB_out (by decide) ?_ | refine QL_next ?_ | refine QL_exit ?_ | refine QL_ret ?_ | refine QL_out (by decide) ?_ | (show Fin _ _ .ret _; exact Fin_ret (by first | (simp [c3]; done) | (simp [c3]; with_reducible rfl))) | (show Fin _ _ .normal _; exact Fin_end (by first | (simp [c3]; done) | (simp [c3]; with_reducible rfl))))
  | succ n ih =>
    intro i X tr st hi hai hT h1 h2 hc
    have hi32 : (i : Int) < 32 := by omega
    have hi32' : i < 32 := by omega
    obtain ⟨s, hs⟩ : ∃ s, s = a + i := ⟨_, rfl⟩
    have w1 : IntKind.i64.wrap ((a : Int) + i) = (s : Int) := by rw [wrap_id _ (by omega) (by omega)]; omega
    by_cases hend : s < bits
    · have hend' : (s : Int) < bits := by omega
      have hw := wrapS i 32 hi32' (by omega)
      have hwu : IntKind.u64.wrap (i : Int) = i := IntWalk.u64_in _ (by omega)
      have hi0 : ¬ (i : Int) < 0 := by omega
      have hbit := bit32 t1 i ht1 hi32'
      have hms : t1 % 2 ^ (i + 1) = t1 % 2 ^ i + 2 ^ i * (t1 / 2 ^ i % 2) := Nat.mod_pow_succ
      have htb : t1.testBit i = decide (t1 / 2 ^ i % 2 = 1) := Nat.testBit_eq_decide_div_mod_eq
      have ih' := ih (i + 1)
      cases hb : t1.testBit i with
      | false =>
        rw [hb] at hbit
        simp only [Bool.false_eq_true, if_false] at hbit
        have hT' := hT.skip hb
        unfold c3_k0
        refine W_round hc ?_
        unfold c3_l0
        repeat (first | refine W_assoc ?_ | (show W _ (.seq (.region _ _) _) _ _; refine W_reg (by simp; with_reducible rfl) ?_) | (show R _ _ _ (_ :: _) _ _ _ _; refine R_op (by simp (maxSteps := 2000000) [hi32, hi32', w1, hend, hend', hw, hwu, hi0, hbit]; with_reducible rfl) ?_) | (show R _ _ _ [] _ _ _ _; refine R_nil (by simp; with_reducible rfl) ?_) | (show W _ (.seq (.cond _ _ _) _) _ _; first | refine W_ct (by first | (simp [hi32, hi32', w1, hend, hend', hw, hwu, hi0, hbit]; done) | fail) ?_ | refine W_cf (by first | (simp [hi32, hi32', w1, hend, hend', hw, hwu, hi0, hbit]; done) | fail) ?_) | refine W_skip ?_ | refine W_bl (c := .seq _ _) ?_ | refine W_bl (c := .region _ _) ?_ | refine W_bl (c := .cond _ _ _) ?_ | refine W_bl (c := .block _ _) ?_ | refine W_rt ?_ | refine W_ex ?_ | refine W_end ?_ | refine W_tail (a := .region _ _) ?_ | refine W_tail (a := .cond _ _ _) ?_ | refine W_tail (a := .ret) ?_ | refine W_tail (a := .exit _) ?_ | refine W_tail (a := .block _ _) ?_ | refine QB_normal ?_ | refine QB_exit ?_ | refine QB_ret ?_ | refine QB_out (by decide) ?_ | refine QL_next ?_ | refine QL_exit ?_ | refine QL_ret ?_ | refine QL_out (by decide) ?_ | (show Fin _ _ .ret _; exact Fin_ret (by first | (simp; done) | (simp; with_reducible rfl))) | (show Fin _ _ .normal _; exact Fin_end (by first | (simp; done) | (simp; with_reducible rfl))))
        refine ih' X tr _ ?_ ?_ hT' ?_ h2 ?_
        · omega
        · omega
        · intro htr; rw [hms]; exact Nat.lt_of_lt_of_le (h1 htr) (Nat.le_add_right _ _)
        · simp; try rfl
      | true =>
        rw [hb] at hbit
        simp only [if_true] at hbit
        obtain ⟨q, hq⟩ : ∃ q, q = s / 8 := ⟨_, rfl⟩
        obtain ⟨m, hm⟩ : ∃ m, m = s % 8 := ⟨_, rfl⟩
        have hm8 : m < 8 := by omega
        have hXl := hT.len
        have hqF : 1 + q < X.length := by omega
        have hT' := hT.flip hb (by rw [← hs, ← hq]; exact hqF)
        simp only [← hs, ← hq, ← hm] at hT'
        have hby := hT.rg _ (List.getElem_mem hqF)
        obtain ⟨j, hj⟩ : ∃ j, j = 1 + q := ⟨_, rfl⟩
        simp only [← hj] at hT' hqF hby
        have wq : IntKind.i64.wrap ((s : Int) / 8) = (q : Int) := by rw [wrap_id _ (by omega) (by omega)]; omega
        have wq' : IntKind.i64.wrap ((s : Int).tdiv 8) = (q : Int) := by rw [Int.tdiv_eq_ediv_of_nonneg (by omega), wrap_id _ (by omega) (by omega)]; omega
        have hmz : (s : Int) % 8 = (m : Int) := by omega
        have hmz' : (s : Int).tmod 8 = (m : Int) := by rw [Int.tmod_eq_emod_of_nonneg (by omega)]; omega
        have wm : IntKind.u64.wrap (m : Int) = m := IntWalk.u64_in _ (by omega)
        have hm0 : ¬ (m : Int) < 0 := by omega
        have w2 : IntKind.i64.wrap (1 + (q : Int)) = (j : Int) := by rw [wrap_id _ (by omega) (by omega)]; omega
        have w2' : IntKind.i64.wrap ((q : Int) + 1) = (j : Int) := by rw [wrap_id _ (by omega) (by omega)]; omega
        have hsl := shl8 m hm8
        have hxr := xor8 X[j] m hby hm8
        have hjX' : (j : Int) < X.length := by omega
        have hgoal := ih' (X.set j (((X[j]).toNat ^^^ 2 ^ m : Nat) : Int)) true
        generalize hv : (((X[j]).toNat ^^^ 2 ^ m : Nat) : Int) = v at *
        have hp2 : 0 < 2 ^ i := Nat.two_pow_pos i
        unfold c3_k0
        refine W_round hc ?_
        unfold c3_l0
        repeat (first | refine W_assoc ?_ | (show W _ (.seq (.region _ _) _) _ _; refine W_reg (by simp; with_reducible rfl) ?_) | (show R _ _ _ (_ :: _) _ _ _ _; refine R_op (by simp (maxSteps := 2000000) [hi32, hi32', w1, hend, hend', hw, hwu, hi0, hbit, wq, wq', hmz, hmz', wm, hm0, w2, w2', hqF, hjX', hsl, hxr]; with_reducible rfl) ?_) | (show R _ _ _ [] _ _ _ _; refine R_nil (by simp; with_reducible rfl) ?_) | (show W _ (.seq (.cond _ _ _) _) _ _; first | refine W_ct (by first | (simp [hi32, hi32', w1, hend, hend', hw, hwu, hi0, hbit, wq, wq', hmz, hmz', wm, hm0, w2, w2', hqF, hjX', hsl, hxr]; done) | fail) ?_ | refine W_cf (by first | (simp [hi32, hi32', w1, hend, hend', hw, hwu, hi0, hbit, wq, wq', hmz, hmz', wm, hm0, w2, w2', hqF, hjX', hsl, hxr]; done) | fail) ?_) | refine W_skip ?_ | refine W_bl (c := .seq _ _) ?_ | refine W_bl (c := .region _ _) ?_ | refine W_bl (c := .cond _ _ _) ?_ | refine W_bl (c := .block _ _) ?_ | refine W_rt ?_ | refine W_ex ?_ | refine W_end ?_ | refine W_tail (a := .region _ _) ?_ | refine W_tail (a := .cond _ _ _) ?_ | refine W_tail (a := .ret) ?_ | refine W_tail (a := .exit _) ?_ | refine W_tail (a := .block _ _) ?_ | refine QB_normal ?_ | refine QB_exit ?_ | refine QB_ret ?_ | refine QB_out (by decide) ?_ | refine QL_next ?_ | refine QL_exit ?_ | refine QL_ret ?_ | refine QL_out (by decide) ?_ | (show Fin _ _ .ret _; exact Fin_ret (by first | (simp; done) | (simp; with_reducible rfl))) | (show Fin _ _ .normal _; exact Fin_end (by first | (simp; done) | (simp; with_reducible rfl))))
        refine hgoal _ ?_ ?_ hT' ?_ ?_ ?_
        · omega
        · omega
        · intro _; rw [hb] at htb; rw [hms, of_decide_eq_true htb.symm, Nat.mul_one]; exact Nat.lt_of_lt_of_le hp2 (Nat.le_add_left _ _)
        · intro hf; simp at hf
        · simp; try rfl
    · have hend' : ¬ (s : Int) < bits := by omega
      obtain ⟨q, e, f1, g1, g2⟩ := key i X tr (by omega) hT h1 h2
      have hbx := sb_bs X hT.rg
      cases tr with
      | true =>
        have he := g1 rfl
        unfold c3_k0
        refine W_round hc ?_
        unfold c3_l0
        repeat (first | refine W_assoc ?_ | (show W _ (.seq (.region _ _) _) _ _; refine W_reg (by simp; with_reducible rfl) ?_) | (show R _ _ _ (_ :: _) _ _ _ _; refine R_op (by simp (maxSteps := 2000000) [hi32, hi32', w1, hend, hend', f1, he, V_works23]; with_reducible rfl) ?_) | (show R _ _ _ [] _ _ _ _; refine R_nil (by simp; with_reducible rfl) ?_) | (show W _ (.seq (.cond _ _ _) _) _ _; first | refine W_ct (by first | (simp [hi32, hi32', w1, hend, hend', f1, he, V_works23]; done) | fail) ?_ | refine W_cf (by first | (simp [hi32, hi32', w1, hend, hend', f1, he, V_works23]; done) | fail) ?_) | refine W_skip ?_ | refine W_bl (c := .seq _ _) ?_ | refine W_bl (c := .region _ _) ?_ | refine W_bl (c := .cond _ _ _) ?_ | refine W_bl (c := .block _ _) ?_ | refine W_rt ?_ | refine W_ex ?_ | refine W_end ?_ | refine W_tail (a := .region _ _) ?_ | refine W_tail (a := .cond _ _ _) ?_ | refine W_tail (a := .ret) ?_ | refine W_tail (a := .exit _) ?_ | refine W_tail (a := .block _ _) ?_ | refine QB_normal ?_ | refine QB_exit ?_ | refine QB_ret ?_ | refine QB_out (by decide) ?_ | refine QL_next ?_ | refine QL_exit ?_ | refine QL_ret ?_ | refine QL_out (by decide) ?_ | (show Fin _ _ .ret _; exact Fin_ret (by first | (simp [c3]; done) | (simp [c3]; with_reducible rfl))) | (show Fin _ _ .normal _; exact Fin_end (by first | (simp [c3]; done) | (simp [c3]; with_reducible rfl))))
      | false =>
        obtain rfl := g2 rfl
        unfold c3_k0
        refine W_round hc ?_
        unfold c3_l0
        repeat (first | refine W_assoc ?_ | (show W _ (.seq (.region _ _) _) _ _; refine W_reg (by simp; with_reducible rfl) ?_) | (show R _ _ _ (_ :: _) _ _ _ _; refine R_op (by simp (maxSteps := 2000000) [hi32, hi32', w1, hend, hend', f1, V_works23]; with_reducible rfl) ?_) | (show R _ _ _ [] _ _ _ _; refine R_nil (by simp; with_reducible rfl) ?_) | (show W _ (.seq (.cond _ _ _) _) _ _; first | refine W_ct (by first | (simp [hi32, hi32', w1, hend, hend', f1, V_works23]; done) | fail) ?_ | refine W_cf (by first | (simp [hi32, hi32', w1, hend, hend', f1, V_works23]; done) | fail) ?_) | refine W_skip ?_ | refine W_bl (c := .seq _ _) ?_ | refine W_bl (c := .region _ _) ?_ | refine W_bl (c := .cond _ _ _) ?_ | refine W_bl (c := .block _ _) ?_ | refine W_rt ?_ | refine W_ex ?_ | refine W_end ?_ | refine W_tail (a := .region _ _) ?_ | refine W_tail (a := .cond _ _ _) ?_ | refine W_tail (a := .ret) ?_ | refine W_tail (a := .exit _) ?_ | refine W_tail (a := .block _ _) ?_ | refine QB_normal ?_ | refine QB_exit ?_ | refine QB_ret ?_ | refine QB_out (by decide) ?_ | refine QL_next ?_ | refine QL_exit ?_ | refine QL_ret ?_ | refine QL_out (by decide) ?_ | (show Fin _ _ .ret _; exact Fin_ret (by first | (simp [c3]; done) | (simp [c3]; with_reducible rfl))) | (show Fin _ _ .normal _; exact Fin_end (by first | (simp [c3]; done) | (simp [c3]; with_reducible rfl))))

theorem packBack (p : Pk) (hb : ∀ x ∈ p.body, 0 ≤ x ∧ x ≤ 255) (s : List Int) (hs : ∀ a ∈ s, 0 ≤ a ∧ a ≤ 255) (t0 t1 : Nat) (ht0 : t0 < 4294967296) (ht1 : t1 < 4294967296) : F T 3 [.agg (pk p), .str (bs s), .agg [.int .u32 t0, .int .u32 t1]] [] = some (.bool true, []) := by
  have vo := V_of p
  have vc := V_PCheck p
  have hself := eq_self p
  by_cases h1 : 1000 < s.length
  · have h1' : (1000 : Int) < s.length := by omega
    refine F_W T3 ?_
    simp only [c3, c3_b, Lift.start]
    repeat (first | refine W_assoc ?_ | (show W _ (.seq (.region _ _) _) _ _; refine W_reg (by simp; with_reducible rfl) ?_) | (show R _ _ _ (_ :: _) _ _ _ _; refine R_op (by simp (maxSteps := 2000000) [h1, h1', V_works23]; with_reducible rfl) ?_) | (show R _ _ _ [] _ _ _ _; refine R_nil (by simp; with_reducible rfl) ?_) | (show W _ (.seq (.cond _ _ _) _) _ _; first | refine W_ct (by first | (simp [h1, h1', V_works23]; done) | fail) ?_ | refine W_cf (by first | (simp [h1, h1', V_works23]; done) | fail) ?_) | refine W_skip ?_ | refine W_bl (c := .seq _ _) ?_ | refine W_bl (c := .region _ _) ?_ | refine W_bl (c := .cond _ _ _) ?_ | refine W_bl (c := .block _ _) ?_ | refine W_rt ?_ | refine W_ex ?_ | refine W_end ?_ | refine W_tail (a := .region _ _) ?_ | refine W_tail (a := .cond _ _ _) ?_ | refine W_tail (a := .ret) ?_ | refine W_tail (a := .exit _) ?_ | refine W_tail (a := .block _ _) ?_ | refine QB_normal ?_ | refine QB_exit ?_ | refine QB_ret ?_ | refine QB_out (by decide) ?_ | refine QL_next ?_ | refine QL_exit ?_ | refine QL_ret ?_ | refine QL_out (by decide) ?_ | (show Fin _ _ .ret _; exact Fin_ret (by first | (simp [c3]; done) | (simp [c3]; with_reducible rfl))) | (show Fin _ _ .normal _; exact Fin_end (by first | (simp [c3]; done) | (simp [c3]; with_reducible rfl))))
  have h1' : ¬ (1000 : Int) < s.length := by omega
  by_cases h2 : 1000 < p.body.length
  · have h2' : (1000 : Int) < p.body.length := by omega
    obtain ⟨k, f, t, i, pe, se, b⟩ := p
    simp only [pk] at h2 h2' ⊢
    refine F_W T3 ?_
    simp only [c3, c3_b, Lift.start]
    repeat (first | refine W_assoc ?_ | (show W _ (.seq (.region _ _) _) _ _; refine W_reg (by simp; with_reducible rfl) ?_) | (show R _ _ _ (_ :: _) _ _ _ _; refine R_op (by simp (maxSteps := 2000000) [h1, h1', h2, h2', V_works23]; with_reducible rfl) ?_) | (show R _ _ _ [] _ _ _ _; refine R_nil (by simp; with_reducible rfl) ?_) | (show W _ (.seq (.cond _ _ _) _) _ _; first | refine W_ct (by first | (simp [h1, h1', h2, h2', V_works23]; done) | fail) ?_ | refine W_cf (by first | (simp [h1, h1', h2, h2', V_works23]; done) | fail) ?_) | refine W_skip ?_ | refine W_bl (c := .seq _ _) ?_ | refine W_bl (c := .region _ _) ?_ | refine W_bl (c := .cond _ _ _) ?_ | refine W_bl (c := .block _ _) ?_ | refine W_rt ?_ | refine W_ex ?_ | refine W_end ?_ | refine W_tail (a := .region _ _) ?_ | refine W_tail (a := .cond _ _ _) ?_ | refine W_tail (a := .ret) ?_ | refine W_tail (a := .exit _) ?_ | refine W_tail (a := .block _ _) ?_ | refine QB_normal ?_ | refine QB_exit ?_ | refine QB_ret ?_ | refine QB_out (by decide) ?_ | refine QL_next ?_ | refine QL_exit ?_ | refine QL_ret ?_ | refine QL_out (by decide) ?_ | (show Fin _ _ .ret _; exact Fin_ret (by first | (simp [c3]; done) | (simp [c3]; with_reducible rfl))) | (show Fin _ _ .normal _; exact Fin_end (by first | (simp [c3]; done) | (simp [c3]; with_reducible rfl))))
  have h2' : ¬ (1000 : Int) < p.body.length := by omega
  have fo := FV_of (F_POpen s hs (by omega))
  have fb : (openP s).2 = 0 → FV (F T) 7 [.agg (pk (openP s).1)] = some (.str (bs s)) := by
    intro he
    obtain ⟨g1, g2⟩ := openP_back s hs he
    have := V_PBytes (openP s).1 g1 (body_rg _ g1 (by rw [g2]; exact hs))
    rw [g2] at this
    exact this
  generalize openP s = os at *
  obtain ⟨x, e⟩ := os
  simp only [] at fo fb
  cases hc : chkP p with
  | false =>
    have vb := V_PBytes0 p hc
    rw [hc] at vc
    obtain ⟨k, f, t, i, pe, se, b⟩ := p
    obtain ⟨k', f', t', i', pe', se', b'⟩ := x
    simp only [pk] at vo vc vb fo fb h2 h2' ⊢
    simp at fo vo vc vb fb
    refine F_W T3 ?_
    simp only [c3, c3_b, Lift.start]
    by_cases he : e = 0
    · subst he
      have fb' := fb rfl
      repeat (first | refine W_assoc ?_ | (show W _ (.seq (.region _ _) _) _ _; refine W_reg (by simp; with_reducible rfl) ?_) | (show R _ _ _ (_ :: _) _ _ _ _; refine R_op (by simp (maxSteps := 2000000) [h1, h1', h2, h2', fo, fb', vo, vc, vb, V_works23]; with_reducible rfl) ?_) | (show R _ _ _ [] _ _ _ _; refine R_nil (by simp; with_reducible rfl) ?_) | (show W _ (.seq (.cond _ _ _) _) _ _; first | refine W_ct (by first | (simp [h1, h1', h2, h2', fo, fb', vo, vc, vb, V_works23]; done) | fail) ?_ | refine W_cf (by first | (simp [h1, h1', h2, h2', fo, fb', vo, vc, vb, V_works23]; done) | fail) ?_) | refine W_skip ?_ | refine W_bl (c := .seq _ _) ?_ | refine W_bl (c := .region _ _) ?_ | refine W_bl (c := .cond _ _ _) ?_ | refine W_bl (c := .block _ _) ?_ | refine W_rt ?_ | refine W_ex ?_ | refine W_end ?_ | refine W_tail (a := .region _ _) ?_ | refine W_tail (a := .cond _ _ _) ?_ | refine W_tail (a := .ret) ?_ | refine W_tail (a := .exit _) ?_ | refine W_tail (a := .block _ _) ?_ | refine QB_normal ?_ | refine QB_exit ?_ | refine QB_ret ?_ | refine QB_out (by decide) ?_ | refine QL_next ?_ | refine QL_exit ?_ | refine QL_ret ?_ | refine QL_out (by decide) ?_ | (show Fin _ _ .ret _; exact Fin_ret (by first | (simp [c3]; done) | (simp [c3]; with_reducible rfl))) | (show Fin _ _ .normal _; exact Fin_end (by first | (simp [c3]; done) | (simp [c3]; with_reducible rfl))))
    · repeat (first | refine W_assoc ?_ | (show W _ (.seq (.region _ _) _) _ _; refine W_reg (by simp; with_reducible rfl) ?_) | (show R _ _ _ (_ :: _) _ _ _ _; refine R_op (by simp (maxSteps := 2000000) [h1, h1', h2, h2', fo, he, vo, vc, vb, V_works23]; with_reducible rfl) ?_) | (show R _ _ _ [] _ _ _ _; refine R_nil (by simp; with_reducible rfl) ?_) | (show W _ (.seq (.cond _ _ _) _) _ _; first | refine W_ct (by first | (simp [h1, h1', h2, h2', fo, he, vo, vc, vb, V_works23]; done) | fail) ?_ | refine W_cf (by first | (simp [h1, h1', h2, h2', fo, he, vo, vc, vb, V_works23]; done) | fail) ?_) | refine W_skip ?_ | refine W_bl (c := .seq _ _) ?_ | refine W_bl (c := .region _ _) ?_ | refine W_bl (c := .cond _ _ _) ?_ | refine W_bl (c := .block _ _) ?_ | refine W_rt ?_ | refine W_ex ?_ | refine W_end ?_ | refine W_tail (a := .region _ _) ?_ | refine W_tail (a := .cond _ _ _) ?_ | refine W_tail (a := .ret) ?_ | refine W_tail (a := .exit _) ?_ | refine W_tail (a := .block _ _) ?_ | refine QB_normal ?_ | refine QB_exit ?_ | refine QB_ret ?_ | refine QB_out (by decide) ?_ | refine QL_next ?_ | refine QL_exit ?_ | refine QL_ret ?_ | refine QL_out (by decide) ?_ | (show Fin _ _ .ret _; exact Fin_ret (by first | (simp [c3]; done) | (simp [c3]; with_reducible rfl))) | (show Fin _ _ .normal _; exact Fin_end (by first | (simp [c3]; done) | (simp [c3]; with_reducible rfl))))
  | true =>
    have vb := V_PBytes p hc hb
    rw [hc] at vc
    have hl := bytesP_len p hc
    have htl := textB_len (bytesP p) (by omega)
    have hfl := frameB_len (bytesP p)
    have htx : textB (bytesP p) = ((bytesP p).length : Int) :: bytesP p := by unfold textB numB; rw [if_pos (by omega)]; rfl
    have htx2 := congrArg List.length htx
    rw [List.length_cons] at htx2
    have hfr := frameB_range (bytesP p) (by omega) (bytesP_range p hc hb)
    have fo2 := FV_of (F_POpen (frameB (bytesP p)) hfr (by omega))
    rw [openP_bytes p hc] at fo2
    obtain ⟨F', hF'⟩ : ∃ F', F' = frameB (bytesP p) := ⟨_, rfl⟩
    rw [← hF'] at vb hfl hfr fo2
    have hF9 : 9 ≤ F'.length := by omega
    have hF6 : ¬ F'.length < 6 := by omega
    have hF6' : ¬ (F'.length : Int) < 6 := by omega
    have hF20 : F'.length ≤ 200 := by omega
    obtain ⟨bits, hbits⟩ : ∃ b, b = 8 * (F'.length - 1) := ⟨_, rfl⟩
    obtain ⟨a, ha⟩ : ∃ a, a = t0 % bits := ⟨_, rfl⟩
    have hab : a < bits := by rw [ha]; exact Nat.mod_lt _ (by omega)
    have hL := fun st => pb_loop p hc hb t0 t1 ht1 F' hF' hF9 hF20 bits a (by omega) 32 0 F' false st rfl (by omega) (Turn.zero _ _ _ hfr) (by simp) (fun _ => rfl)
    have hbr := bytesRow_bs F' hfr
    have w1 : IntKind.i64.wrap ((F'.length : Int) - 1) = ((F'.length - 1 : Nat) : Int) := by rw [wrap_id _ (by omega) (by omega)]; omega
    have w2 : IntKind.i64.wrap (8 * ((F'.length - 1 : Nat) : Int)) = (bits : Int) := by rw [wrap_id _ (by omega) (by omega)]; omega
    have w3 : IntKind.i64.wrap (t0 : Int) = t0 := wrap_id _ (by omega) (by omega)
    have w4 : (t0 : Int).tmod (bits : Int) = (a : Int) := by rw [tmod_nat, ha]
    have w4' : (t0 : Int) % (bits : Int) = (a : Int) := by rw [ha]; simp
    have w5 : ¬ (bits : Int) = 0 := by omega
    have w6 : bits ≠ 0 := by omega
    have hq : F'.length ≤ 140737488355328 := by omega
    clear hL
    have hL := fun st => pb_loop p hc hb t0 t1 ht1 F' hF' hF9 hF20 bits a (by omega) 32 0 F' false st rfl (by omega) (Turn.zero _ _ _ hfr) (by simp) (fun _ => rfl)
    clear hF' hfl htl hl htx htx2
    obtain ⟨k, f, t, i, pe, se, b⟩ := p
    obtain ⟨k', f', t', i', pe', se', b'⟩ := x
    simp only [pk] at vo vc vb fo fb fo2 hself h2 h2' ⊢
    simp at fo vo vc vb fb fo2 hself
    refine F_W T3 ?_
    simp only [c3, c3_b, Lift.start]
    by_cases he : e = 0
    · subst he
      have fb' := fb rfl
      repeat (first | refine W_assoc ?_ | (show W _ (.seq (.region _ _) _) _ _; refine W_reg (by simp; with_reducible rfl) ?_) | (show R _ _ _ (_ :: _) _ _ _ _; refine R_op (by simp (maxSteps := 2000000) [h1, h1', h2, h2', fo, fb', vo, vc, vb, fo2, hself, hF6, hF6', hbr, hq, w1, w2, w3, w4, w4', w5, w6]; with_reducible rfl) ?_) | (show R _ _ _ [] _ _ _ _; refine R_nil (by simp; with_reducible rfl) ?_) | (show W _ (.seq (.cond _ _ _) _) _ _; first | refine W_ct (by first | (simp [h1, h1', h2, h2', fo, fb', vo, vc, vb, fo2, hself, hF6, hF6', hbr, hq, w1, w2, w3, w4, w4', w5, w6]; done) | fail) ?_ | refine W_cf (by first | (simp [h1, h1', h2, h2', fo, fb', vo, vc, vb, fo2, hself, hF6, hF6', hbr, hq, w1, w2, w3, w4, w4', w5, w6]; done) | fail) ?_) | refine W_skip ?_ | refine W_bl (c := .seq _ _) ?_ | refine W_bl (c := .region _ _) ?_ | refine W_bl (c := .cond _ _ _) ?_ | refine W_bl (c := .block _ _) ?_ | refine W_rt ?_ | refine W_ex ?_ | refine W_end ?_ | refine W_tail (a := .region _ _) ?_ | refine W_tail (a := .cond _ _ _) ?_ | refine W_tail (a := .ret) ?_ | refine W_tail (a := .exit _) ?_ | refine W_tail (a := .block _ _) ?_ | refine QB_normal ?_ | refine QB_exit ?_ | refine QB_ret ?_ | refine QB_out (by decide) ?_ | refine QL_next ?_ | refine QL_exit ?_ | refine QL_ret ?_ | refine QL_out (by decide) ?_ | (show Fin _ _ .ret _; exact Fin_ret (by first | (simp; done) | (simp; with_reducible rfl))) | (show Fin _ _ .normal _; exact Fin_end (by first | (simp; done) | (simp; with_reducible rfl))))
      refine hL _ ?_
      simp; try rfl
    · repeat (first | refine W_assoc ?_ | (show W _ (.seq (.region _ _) _) _ _; refine W_reg (by simp; with_reducible rfl) ?_) | (show R _ _ _ (_ :: _) _ _ _ _; refine R_op (by simp (maxSteps := 2000000) [h1, h1', h2, h2', fo, he, vo, vc, vb, fo2, hself, hF6, hF6', hbr, hq, w1, w2, w3, w4, w4', w5, w6]; with_reducible rfl) ?_) | (show R _ _ _ [] _ _ _ _; refine R_nil (by simp; with_reducible rfl) ?_) | (show W _ (.seq (.cond _ _ _) _) _ _; first | refine W_ct (by first | (simp [h1, h1', h2, h2', fo, he, vo, vc, vb, fo2, hself, hF6, hF6', hbr, hq, w1, w2, w3, w4, w4', w5, w6]; done) | fail) ?_ | refine W_cf (by first | (simp [h1, h1', h2, h2', fo, he, vo, vc, vb, fo2, hself, hF6, hF6', hbr, hq, w1, w2, w3, w4, w4', w5, w6]; done) | fail) ?_) | refine W_skip ?_ | refine W_bl (c := .seq _ _) ?_ | refine W_bl (c := .region _ _) ?_ | refine W_bl (c := .cond _ _ _) ?_ | refine W_bl (c := .block _ _) ?_ | refine W_rt ?_ | refine W_ex ?_ | refine W_end ?_ | refine W_tail (a := .region _ _) ?_ | refine W_tail (a := .cond _ _ _) ?_ | refine W_tail (a := .ret) ?_ | refine W_tail (a := .exit _) ?_ | refine W_tail (a := .block _ _) ?_ | refine QB_normal ?_ | refine QB_exit ?_ | refine QB_ret ?_ | refine QB_out (by decide) ?_ | refine QL_next ?_ | refine QL_exit ?_ | refine QL_ret ?_ | refine QL_out (by decide) ?_ | (show Fin _ _ .ret _; exact Fin_ret (by first | (simp; done) | (simp; with_reducible rfl))) | (show Fin _ _ .normal _; exact Fin_end (by first | (simp; done) | (simp; with_reducible rfl))))
      refine hL _ ?_
      simp; try rfl

end Go.Proofs.Ytleeafkkgepblaa.Oct
