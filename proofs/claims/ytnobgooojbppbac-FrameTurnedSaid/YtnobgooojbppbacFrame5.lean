/- Frames: where bits are turned in one of them, those ahead of it are told, and no others. -/
import Derived.Test.YtnobgooojbppbacFrame4
set_option linter.all false
set_option linter.unusedSimpArgs false
set_option maxRecDepth 100000
set_option maxHeartbeats 8000000
namespace Go.Proofs.Ytnobgooojbppbac.Oct
open Go Go.RowKit Go.Proofs.Ytnobgooojbppbac.Lift Go.Proofs.Ytnobgooojbppbac.TOC Go.Proofs.Ytnobgooojbppbac.Base Go.Proofs.Ytnobgooojbppbac Go.Proofs.Ytnobgooojbppbac.CrcC

theorem mid_get (pre F post : List Int) (q : Nat) (h : q < F.length) (h' : pre.length + q < (pre ++ F ++ post).length) : (pre ++ F ++ post)[pre.length + q] = F[q] := by
  rw [List.getElem_append_left (by rw [List.length_append]; omega), List.getElem_append_right (by omega)]
  simp
theorem mid_set (pre F post : List Int) (q : Nat) (v : Int) (h : q < F.length) : (pre ++ F ++ post).set (pre.length + q) v = pre ++ F.set q v ++ post := by
  rw [List.append_assoc, List.set_append_right _ _ (by omega), show pre.length + q - pre.length = q by omega, List.set_append_left _ _ h, List.append_assoc]

theorem turn_loop (ps : List ByteArray) (hf : Few ps) (kN : Nat) (hk : kN < ps.length) (t0 t1 : Nat) (ht : 0 < t1) (ht1 : t1 < 4294967296) (a : Nat) (ha : a ≤ 8 * (ps[kN]).size) (E : List Int) (hEl : E.length = ps.length) (hE : ∀ (j : Nat) (h : j < E.length), E[j] = ((J (ps.take (j + 1))).length : Int)) :
    ∀ (n i : Nat) (F' X : List Int) (st : ASt), i + n = 32 → Turn (frameB (sb ps[kN])) t1 a i F' → X = J (ps.take kN) ++ F' ++ J (ps.drop (kN + 1)) →
      canon [0, 5, 7, 8, 10, 11, 12, 13] st = ⟨[.ro 1 (enc eStr ps) false, .top, .top, .top, .top, .ref 0 0 0, .top, .own 1 0 X.length, .own 2 0 E.length, .top, .int .i64 kN, .int .i64 (((J (ps.take kN)).length : Int) + 1), .int .i64 a, .int .i64 i, .top, .top, .top, .top, .top, .top, .top, .top, .top, .top, .top, .top, .top, .top, .top, .top, .top, .top, .top, .top, .top, .top, .top, .top, .top, .top, .top, .top, .top, .top, .top, .top, .top, .top, .top, .top, .top, .top, .top, .top, .top, .top, .top, .top, .top, .top, .top, .top, .top, .top, .top, .top, .top, .top, .top, .top, .top, .top, .top, .top, .top, .top, .top, .top, .top, .top, .top, .top, .top, .top, .top, .top, .top, .top, .top, .top, .top, .top, .top, .top, .top, .top, .top, .top, .top, .top, .top, .top, .top, .top, .top, .top, .top, .top, .top, .top, .top, .top, .top, .top, .top, .top, .top, .top, .top, .top, .top, .top, .top, .top, .top, .top, .top, .top, .top, .top, .top, .top, .top, .top, .top, .top, .top, .top, .top, .top, .top, .top, .top, .top, .top, .top, .top, .top, .top, .top, .top, .top, .top], [(0, ⟨63, 2, true, [[.int .u32 t0, .int .u32 t1]], 0⟩), (1, ⟨5, 1, false, enc (eInt .u8) X, 0⟩), (2, ⟨3, 1, false, enc (eInt .i64) E, 0⟩)], 3, 0⟩ →
      W T c12_k1 st (Lift.Fin c12 (.bool true, [])) := by
  have h20 := hf.n
  have hsz := hf.each ps[kN] (List.getElem_mem hk)
  have hfs := frame_size ps[kN] hsz
  have hj1 := J_len (ps.take kN) (hf.take kN).each
  have htk : (ps.take kN).length = kN := by simp; omega
  have hj2 := J_len (ps.drop (kN + 1)) (fun s hs => hf.each s (List.mem_of_mem_drop hs))
  have hdk : (ps.drop (kN + 1)).length = ps.length - (kN + 1) := by simp
  intro n
  induction n with
  | zero =>
    intro i F' X st hi hT hX hc
    obtain rfl : i = 32 := by omega
    have hlen : X.length ≤ 4112 := by rw [hX]; simp only [List.length_append, hT.len]; omega
    have hrg : ∀ x ∈ X, 0 ≤ x ∧ x ≤ 255 := by
      intro x hx
      rw [hX] at hx
      simp only [List.mem_append] at hx
      rcases hx with (hx | hx) | hx
      · exact J_range _ (hf.take kN).each x hx
      · exact hT.rg x hx
      · exact J_range _ (fun s hs => hf.each s (List.mem_of_mem_drop hs)) x hx
    have f1 := F_All X hrg hlen
    have hcut := cutP_turned (sb ps[kN]) F' (J (ps.drop (kN + 1))) t1 a 32 (by rw [sb_length]; omega) (sb_range _) hT (by rw [Nat.mod_eq_of_lt ht1]; exact ht) (by omega)
    have hall : allP X.length X = (ps.take kN, (J (ps.take kN)).length) := by
      have hXl : (J (ps.take kN)).length ≤ X.length := by rw [hX]; simp only [List.length_append]; omega
      have := allP_J (ps.take kN) (hf.take kN) (F' ++ J (ps.drop (kN + 1))) X.length (by omega) (.inr hcut)
      rw [← List.append_assoc, ← hX] at this
      exact this
    rw [hall] at f1
    have f2 := V_RSame (ps.take kN) (by omega)
    simp at f1
    have htt2 : (ps.take kN).take kN = ps.take kN := List.take_of_length_le (by omega)
    have hle : kN ≤ ps.length := by omega
    have hle' : (kN : Int) ≤ ps.length := by omega
    cases kN with
    | zero =>
      rw [List.take_zero] at *
      have hj0 : (J []).length = 0 := rfl
      rw [hj0] at f1 hc
      simp only [enc_nil, List.length_nil] at f1 f2
      unfold c12_k1
      refine W_round hc ?_
      unfold c12_l1
      repeat (first | refine W_assoc ?_ | (show W _ (.seq (.region _ _) _) _ _; refine W_reg (by simp; with_reducible rfl) ?_) | (show R _ _ _ (_ :: _) _ _ _ _; refine R_op (by simp (maxSteps := 2000000) [f1, f2, hle, hle', V_works03]; with_reducible rfl) ?_) | (show R _ _ _ [] _ _ _ _; refine R_nil (by simp; with_reducible rfl) ?_) | (show W _ (.seq (.cond _ _ _) _) _ _; first | refine W_ct (by first | (simp [f1, f2, hle, hle', V_works03]; done) | fail) ?_ | refine W_cf (by first | (simp [f1, f2, hle, hle', V_works03]; done) | fail) ?_) | refine W_skip ?_ | refine W_bl (c := .seq _ _) ?_ | refine W_bl (c := .region _ _) ?_ | refine W_bl (c := .cond _ _ _) ?_ | refine W_bl (c := .block _ _) ?_ | refine W_rt ?_ | refine W_ex ?_ | refine W_end ?_ | refine W_tail (a := .region _ _) ?_ | refine W_tail (a := .cond _ _ _) ?_ | refine W_tail (a := .ret) ?_ | refine W_tail (a := .exit _) ?_ | refine W_tail (a := .block _ _) ?_ | refine QB_normal ?_ | refine QB_exit ?_ | refine QB_ret ?_ | refine QB_out (by decide) ?_ | refine QL_next ?_ | refine QL_exit ?_ | refine QL_ret ?_ | refine QL_out (by decide) ?_ | (show Fin _ _ .ret _; exact Fin_ret (by first | (simp [c12]; done) | (simp [c12]; with_reducible rfl))) | (show Fin _ _ .normal _; exact Fin_end (by first | (simp [c12]; done) | (simp [c12]; with_reducible rfl))))
    | succ M =>
      have hg1 := hE M (by omega)
      have hw1 : IntKind.i64.wrap (M : Int) = (M : Int) := wrap_id _ (by omega) (by omega)
      have hME : M < E.length := by omega
      have hM : M < ps.length := by omega
      have hp1 : (0 : Int) < (M : Int) + 1 := by omega
      have hp0 : (0 : Int) ≤ (M : Int) + 1 := by omega
      have hp2 : ¬ (M : Int) + 1 = 0 := by omega
      have htn : ((M : Int) + 1).toNat = M + 1 := by omega
      have hmin : min (M + 1) ps.length = M + 1 := by omega
      simp [hmin] at f1 hle'
      generalize (J (ps.take (M + 1))).length = e1 at *
      unfold c12_k1
      refine W_round hc ?_
      unfold c12_l1
      repeat (first | refine W_assoc ?_ | (show W _ (.seq (.region _ _) _) _ _; refine W_reg (by simp; with_reducible rfl) ?_) | (show R _ _ _ (_ :: _) _ _ _ _; refine R_op (by simp (maxSteps := 2000000) [f1, f2, hle, hle', hg1, hw1, hME, hM, hp1, hp0, hp2, htn, hEl, htt2, V_works03]; with_reducible rfl) ?_) | (show R _ _ _ [] _ _ _ _; refine R_nil (by simp; with_reducible rfl) ?_) | (show W _ (.seq (.cond _ _ _) _) _ _; first | refine W_ct (by first | (simp [f1, f2, hle, hle', hg1, hw1, hME, hM, hp1, hp0, hp2, htn, hEl, htt2, V_works03]; done) | fail) ?_ | refine W_cf (by first | (simp [f1, f2, hle, hle', hg1, hw1, hME, hM, hp1, hp0, hp2, htn, hEl, htt2, V_works03]; done) | fail) ?_) | refine W_skip ?_ | refine W_bl (c := .seq _ _) ?_ | refine W_bl (c := .region _ _) ?_ | refine W_bl (c := .cond _ _ _) ?_ | refine W_bl (c := .block _ _) ?_ | refine W_rt ?_ | refine W_ex ?_ | refine W_end ?_ | refine W_tail (a := .region _ _) ?_ | refine W_tail (a := .cond _ _ _) ?_ | refine W_tail (a := .ret) ?_ | refine W_tail (a := .exit _) ?_ | refine W_tail (a := .block _ _) ?_ | refine QB_normal ?_ | refine QB_exit ?_ | refine QB_ret ?_ | refine QB_out (by decide) ?_ | refine QL_next ?_ | refine QL_exit ?_ | refine QL_ret ?_ | refine QL_out (by decide) ?_ | (show Fin _ _ .ret _; exact Fin_ret (by first | (simp [c12]; done) | (simp [c12]; with_reducible rfl))) | (show Fin _ _ .normal _; exact Fin_end (by first | (simp [c12]; done) | (simp [c12]; with_reducible rfl))))
  | succ n ih =>
    intro i F' X st hi hT hX hc
    have h1 : (i : Int) < 32 := by omega
    have h1' : i < 32 := by omega
    have hw := wrapS i 32 h1' (by omega)
    have hwu : IntKind.u64.wrap (i : Int) = i := IntWalk.u64_in _ (by omega)
    have hi0 : ¬ (i : Int) < 0 := by omega
    have hbit := bit32 t1 i ht1 h1'
    have ih' := ih (i + 1)
    cases hb : t1.testBit i with
    | false =>
      rw [hb] at hbit
      simp only [Bool.false_eq_true, if_false] at hbit
      have hT' := hT.skip hb
      generalize (J (ps.take kN)).length = P at *
      unfold c12_k1
      refine W_round hc ?_
      unfold c12_l1
      repeat (first | refine W_assoc ?_ | (show W _ (.seq (.region _ _) _) _ _; refine W_reg (by simp; with_reducible rfl) ?_) | (show R _ _ _ (_ :: _) _ _ _ _; refine R_op (by simp (maxSteps := 2000000) [h1, h1', hw, hwu, hi0, hbit]; with_reducible rfl) ?_) | (show R _ _ _ [] _ _ _ _; refine R_nil (by simp; with_reducible rfl) ?_) | (show W _ (.seq (.cond _ _ _) _) _ _; first | refine W_ct (by first | (simp [h1, h1', hw, hwu, hi0, hbit]; done) | fail) ?_ | refine W_cf (by first | (simp [h1, h1', hw, hwu, hi0, hbit]; done) | fail) ?_) | refine W_skip ?_ | refine W_bl (c := .seq _ _) ?_ | refine W_bl (c := .region _ _) ?_ | refine W_bl (c := .cond _ _ _) ?_ | refine W_bl (c := .block _ _) ?_ | refine W_rt ?_ | refine W_ex ?_ | refine W_end ?_ | refine W_tail (a := .region _ _) ?_ | refine W_tail (a := .cond _ _ _) ?_ | refine W_tail (a := .ret) ?_ | refine W_tail (a := .exit _) ?_ | refine W_tail (a := .block _ _) ?_ | refine QB_normal ?_ | refine QB_exit ?_ | refine QB_ret ?_ | refine QB_out (by decide) ?_ | refine QL_next ?_ | refine QL_exit ?_ | refine QL_ret ?_ | refine QL_out (by decide) ?_ | (show Fin _ _ .ret _; exact Fin_ret (by first | (simp; done) | (simp; with_reducible rfl))) | (show Fin _ _ .normal _; exact Fin_end (by first | (simp; done) | (simp; with_reducible rfl))))
      refine ih' F' X _ ?_ hT' hX ?_
      · omega
      · simp; try rfl
    | true =>
      rw [hb] at hbit
      simp only [if_true] at hbit
      obtain ⟨s, hs⟩ : ∃ s, s = a + i := ⟨_, rfl⟩
      obtain ⟨q, hq⟩ : ∃ q, q = s / 8 := ⟨_, rfl⟩
      obtain ⟨m, hm⟩ : ∃ m, m = s % 8 := ⟨_, rfl⟩
      have hm8 : m < 8 := by omega
      have hFl := hT.len
      have hqF : 1 + q < F'.length := by omega
      have hT' := hT.flip hb (by rw [← hs, ← hq]; exact hqF)
      simp only [← hs, ← hq, ← hm] at hT'
      have hby := hT.rg _ (List.getElem_mem hqF)
      obtain ⟨j, hj⟩ : ∃ j, j = (J (ps.take kN)).length + (1 + q) := ⟨_, rfl⟩
      have hjX : j < X.length := by rw [hX, hj]; simp only [List.length_append]; omega
      have hXy : X[j] = F'[1 + q] := by
        subst hX; subst hj
        exact mid_get _ F' _ (1 + q) hqF _
      have hset : ∀ v, X.set j v = J (ps.take kN) ++ F'.set (1 + q) v ++ J (ps.drop (kN + 1)) := by
        intro v
        rw [hX, hj]
        exact mid_set _ F' _ (1 + q) v hqF
      have w1 : IntKind.i64.wrap ((a : Int) + i) = (s : Int) := by rw [wrap_id _ (by omega) (by omega)]; omega
      have wq : IntKind.i64.wrap ((s : Int) / 8) = (q : Int) := by rw [wrap_id _ (by omega) (by omega)]; omega
      have wq' : IntKind.i64.wrap ((s : Int).tdiv 8) = (q : Int) := by rw [Int.tdiv_eq_ediv_of_nonneg (by omega), wrap_id _ (by omega) (by omega)]; omega
      have hmz : (s : Int) % 8 = (m : Int) := by omega
      have hmz' : (s : Int).tmod 8 = (m : Int) := by rw [Int.tmod_eq_emod_of_nonneg (by omega)]; omega
      have wm : IntKind.u64.wrap (m : Int) = m := IntWalk.u64_in _ (by omega)
      have hm0 : ¬ (m : Int) < 0 := by omega
      have hX4 : X.length ≤ 5000 := by rw [hX]; simp only [List.length_append]; omega
      have w2 : IntKind.i64.wrap (((J (ps.take kN)).length : Int) + 1 + q) = (j : Int) := by rw [wrap_id _ (by omega) (by omega)]; omega
      have hsl := shl8 m hm8
      have hxr := xor8 F'[1 + q] m hby hm8
      rw [← hXy] at hxr hT'
      have hjX' : (j : Int) < X.length := by omega
      have hgoal := ih' (F'.set (1 + q) (((X[j]).toNat ^^^ 2 ^ m : Nat) : Int)) (X.set j (((X[j]).toNat ^^^ 2 ^ m : Nat) : Int))
      have hs1 := hset (((X[j]).toNat ^^^ 2 ^ m : Nat) : Int)
      generalize hv : (((X[j]).toNat ^^^ 2 ^ m : Nat) : Int) = v at *
      generalize (J (ps.take kN)).length = P at *
      clear hset hXy
      unfold c12_k1
      refine W_round hc ?_
      unfold c12_l1
      repeat (first | refine W_assoc ?_ | (show W _ (.seq (.region _ _) _) _ _; refine W_reg (by simp; with_reducible rfl) ?_) | (show R _ _ _ (_ :: _) _ _ _ _; refine R_op (by simp (maxSteps := 2000000) [h1, h1', hw, hwu, hi0, hbit, w1, wq, wq', hmz, hmz', wm, hm0, w2, hjX, hjX', hsl, hxr]; with_reducible rfl) ?_) | (show R _ _ _ [] _ _ _ _; refine R_nil (by simp; with_reducible rfl) ?_) | (show W _ (.seq (.cond _ _ _) _) _ _; first | refine W_ct (by first | (simp [h1, h1', hw, hwu, hi0, hbit, w1, wq, wq', hmz, hmz', wm, hm0, w2, hjX, hjX', hsl, hxr]; done) | fail) ?_ | refine W_cf (by first | (simp [h1, h1', hw, hwu, hi0, hbit, w1, wq, wq', hmz, hmz', wm, hm0, w2, hjX, hjX', hsl, hxr]; done) | fail) ?_) | refine W_skip ?_ | refine W_bl (c := .seq _ _) ?_ | refine W_bl (c := .region _ _) ?_ | refine W_bl (c := .cond _ _ _) ?_ | refine W_bl (c := .block _ _) ?_ | refine W_rt ?_ | refine W_ex ?_ | refine W_end ?_ | refine W_tail (a := .region _ _) ?_ | refine W_tail (a := .cond _ _ _) ?_ | refine W_tail (a := .ret) ?_ | refine W_tail (a := .exit _) ?_ | refine W_tail (a := .block _ _) ?_ | refine QB_normal ?_ | refine QB_exit ?_ | refine QB_ret ?_ | refine QB_out (by decide) ?_ | refine QL_next ?_ | refine QL_exit ?_ | refine QL_ret ?_ | refine QL_out (by decide) ?_ | (show Fin _ _ .ret _; exact Fin_ret (by first | (simp; done) | (simp; with_reducible rfl))) | (show Fin _ _ .normal _; exact Fin_end (by first | (simp; done) | (simp; with_reducible rfl))))
      refine hgoal _ ?_ hT' hs1 ?_
      · omega
      · simp; try rfl

theorem tmod_nat (a b : Nat) : (a : Int).tmod (b : Int) = ((a % b : Nat) : Int) := by rw [Int.tmod_eq_emod_of_nonneg (by omega)]; simp

theorem turned_loop (ps : List ByteArray) (hf : Few ps) (hn : 0 < ps.length) (which t0 t1 : Nat) (hw8 : which < 256) (ht0 : t0 < 4294967296) (ht : 0 < t1) (ht1 : t1 < 4294967296) : ∀ (n i : Nat) (st : ASt), i + n = ps.length → canon [0, 1, 5, 7, 8, 9] st = ⟨[.ro 1 (enc eStr ps) false, .int .u8 which, .top, .top, .top, .ref 0 0 0, .top, .own 1 0 (J (ps.take i)).length, .own 2 0 i, .int .i64 i, .top, .top, .top, .top, .top, .top, .top, .top, .top, .top, .top, .top, .top, .top, .top, .top, .top, .top, .top, .top, .top, .top, .top, .top, .top, .top, .top, .top, .top, .top, .top, .top, .top, .top, .top, .top, .top, .top, .top, .top, .top, .top, .top, .top, .top, .top, .top, .top, .top, .top, .top, .top, .top, .top, .top, .top, .top, .top, .top, .top, .top, .top, .top, .top, .top, .top, .top, .top, .top, .top, .top, .top, .top, .top, .top, .top, .top, .top, .top, .top, .top, .top, .top, .top, .top, .top, .top, .top, .top, .top, .top, .top, .top, .top, .top, .top, .top, .top, .top, .top, .top, .top, .top, .top, .top, .top, .top, .top, .top, .top, .top, .top, .top, .top, .top, .top, .top, .top, .top, .top, .top, .top, .top, .top, .top, .top, .top, .top, .top, .top, .top, .top, .top, .top, .top, .top, .top, .top, .top, .top, .top, .top, .top], [(0, ⟨63, 2, true, [[.int .u32 t0, .int .u32 t1]], 0⟩), (1, ⟨5, 1, false, enc (eInt .u8) (J (ps.take i)), 0⟩), (2, ⟨3, 1, false, enc (eInt .i64) (En ps i), 0⟩)], 3, 0⟩ →
    W T c12_k0 st (Lift.Fin c12 (.bool true, [])) := by
  have h20 := hf.n
  intro n
  induction n with
  | zero =>
    intro i st hi hc
    obtain rfl : i = ps.length := by omega
    have h1 : ¬ (ps.length : Int) < ps.length := by omega
    obtain ⟨k, hk⟩ : ∃ k, k = which % ps.length := ⟨_, rfl⟩
    have hkn : k < ps.length := by rw [hk]; exact Nat.mod_lt _ hn
    have hsz := hf.each ps[k] (List.getElem_mem hkn)
    obtain ⟨z, hz⟩ : ∃ z, z = (ps[k]).size := ⟨_, rfl⟩
    obtain ⟨a, ha⟩ : ∃ a, a = t0 % (8 * z + 1) := ⟨_, rfl⟩
    have hal : a ≤ 8 * z := by have := Nat.mod_lt t0 (show 0 < 8 * z + 1 by omega); omega
    have hfs := frame_size ps[k] hsz
    have hjs := J_snoc ps k hkn
    have hjl := congrArg List.length hjs
    rw [List.length_append, hfs] at hjl
    have hjp := congrArg List.length (J_pre ps (k + 1))
    rw [List.length_append] at hjp
    have hJ := J_len ps hf.each
    obtain ⟨E, hE0⟩ : ∃ E, E = En ps ps.length := ⟨_, rfl⟩
    have hEl : E.length = ps.length := by rw [hE0]; simp
    have hE : ∀ (j : Nat) (h : j < E.length), E[j] = ((J (ps.take (j + 1))).length : Int) := by subst hE0; exact fun j h => En_get ps ps.length j h
    have hX : J ps = J (ps.take k) ++ frameB (sb ps[k]) ++ J (ps.drop (k + 1)) := by rw [← hjs]; exact J_pre ps (k + 1)
    have hL := fun st h => turn_loop ps hf k hkn t0 t1 ht ht1 a (by omega) E hEl hE 32 0 (frameB (sb ps[k])) (J ps) st rfl (Turn.zero _ _ _ (frameB_range _ (by rw [sb_length]; omega) (sb_range _))) hX h
    have hEk := hE k (by omega)
    have hkE : k < E.length := by omega
    have hkn' : (k : Int) < ps.length := by omega
    rw [List.take_length, ← hE0] at hc
    have g1 : IntKind.i64.wrap (which : Int) = which := wrap_id _ (by omega) (by omega)
    have g2 : (which : Int).tmod (ps.length : Int) = (k : Int) := by rw [tmod_nat, hk]
    have g2' : (which : Int) % (ps.length : Int) = (k : Int) := by rw [hk]; simp
    have g3 : IntKind.i64.wrap ((t0 : Int)) = t0 := wrap_id _ (by omega) (by omega)
    have g4 : IntKind.i64.wrap (8 * (z : Int)) = 8 * (z : Int) := wrap_id _ (by omega) (by omega)
    have g5 : IntKind.i64.wrap (8 * (z : Int) + 1) = 8 * (z : Int) + 1 := wrap_id _ (by omega) (by omega)
    have g6 : (t0 : Int).tmod (8 * (z : Int) + 1) = (a : Int) := by
      have := tmod_nat t0 (8 * z + 1)
      rw [ha]; simpa using this
    have g6' : (t0 : Int) % (8 * (z : Int) + 1) = (a : Int) := by
      rw [ha]; simp
    have g7 : ¬ 8 * (z : Int) + 1 = 0 := by omega
    have hn0 : ¬ (ps.length : Int) = 0 := by omega
    have hn1 : ps.length ≠ 0 := by omega
    have hpn : ps ≠ [] := by rintro rfl; simp at hn
    rw [← hz] at hjl
    have w1 : IntKind.i64.wrap (((J (ps.take (k + 1))).length : Int) - 4) = ((J (ps.take k)).length : Int) + 1 + z := by rw [wrap_id _ (by omega) (by omega)]; omega
    have w2 : IntKind.i64.wrap (((J (ps.take k)).length : Int) + 1 + z - z) = ((J (ps.take k)).length : Int) + 1 := by rw [wrap_id _ (by omega) (by omega)]; omega
    have w2' : IntKind.i64.wrap (((J (ps.take k)).length : Int) + 1) = ((J (ps.take k)).length : Int) + 1 := by rw [wrap_id _ (by omega) (by omega)]
    have w3 : ¬ ((J (ps.take k)).length : Int) + 1 < 1 := by omega
    have w4 : ¬ (J ps).length < (J (ps.take (k + 1))).length := by omega
    have w5 : ¬ ((J ps).length : Int) < ((J (ps.take (k + 1))).length : Int) := by omega
    generalize (J (ps.take (k + 1))).length = e at *
    generalize (J (ps.take k)).length = P at *
    generalize J ps = B at *
    unfold c12_k0
    refine W_round hc ?_
    unfold c12_l0
    repeat (first | refine W_assoc ?_ | (show W _ (.seq (.region _ _) _) _ _; refine W_reg (by simp; with_reducible rfl) ?_) | (show R _ _ _ (_ :: _) _ _ _ _; refine R_op (by simp (maxSteps := 2000000) [h1, g1, g2, g2', g3, g4, g5, g6, g6', g7, hn0, hn1, hpn, hkE, hkn, hkn', hEl, hEk, ← hz, w1, w2, w2', w3, w4, w5]; with_reducible rfl) ?_) | (show R _ _ _ [] _ _ _ _; refine R_nil (by simp; with_reducible rfl) ?_) | (show W _ (.seq (.cond _ _ _) _) _ _; first | refine W_ct (by first | (simp [h1, g1, g2, g2', g3, g4, g5, g6, g6', g7, hn0, hn1, hpn, hkE, hkn, hkn', hEl, hEk, ← hz, w1, w2, w2', w3, w4, w5]; done) | fail) ?_ | refine W_cf (by first | (simp [h1, g1, g2, g2', g3, g4, g5, g6, g6', g7, hn0, hn1, hpn, hkE, hkn, hkn', hEl, hEk, ← hz, w1, w2, w2', w3, w4, w5]; done) | fail) ?_) | refine W_skip ?_ | refine W_bl (c := .seq _ _) ?_ | refine W_bl (c := .region _ _) ?_ | refine W_bl (c := .cond _ _ _) ?_ | refine W_bl (c := .block _ _) ?_ | refine W_rt ?_ | refine W_ex ?_ | refine W_end ?_ | refine W_tail (a := .region _ _) ?_ | refine W_tail (a := .cond _ _ _) ?_ | refine W_tail (a := .ret) ?_ | refine W_tail (a := .exit _) ?_ | refine W_tail (a := .block _ _) ?_ | refine QB_normal ?_ | refine QB_exit ?_ | refine QB_ret ?_ | refine QB_out (by decide) ?_ | refine QL_next ?_ | refine QL_exit ?_ | refine QL_ret ?_ | refine QL_out (by decide) ?_ | (show Fin _ _ .ret _; exact Fin_ret (by first | (simp; done) | (simp; with_reducible rfl))) | (show Fin _ _ .normal _; exact Fin_end (by first | (simp; done) | (simp; with_reducible rfl))))
    refine hL _ ?_
    simp [hEl]; try rfl
  | succ n ih =>
    intro i st hi hc
    have hlt : i < ps.length := by omega
    have hlt' : (i : Int) < ps.length := by omega
    have hw := wrapS i _ hlt (by omega)
    have hsz := hf.each ps[i] (List.getElem_mem hlt)
    have hji := J_len (ps.take i) (hf.take i).each
    have hti : (ps.take i).length = i := by simp; omega
    have f1 := F_Put _ (J (ps.take i)) (.inl rfl) (by omega) ps[i]
    rw [putB_few _ hsz, ← J_snoc ps i hlt] at f1
    have ih' := ih (i + 1)
    rw [En_succ] at ih'
    have hEl : (En ps i).length = i := En_len ps i
    have b1 : (i + 1) * 8 ≤ 140737488355328 := by omega
    have b2 : i + 1 ≤ 140737488355328 := by omega
    generalize J (ps.take (i + 1)) = B' at *
    generalize J (ps.take i) = B at *
    generalize En ps i = E at *
    unfold c12_k0
    refine W_round hc ?_
    unfold c12_l0
    repeat (first | refine W_assoc ?_ | (show W _ (.seq (.region _ _) _) _ _; refine W_reg (by simp; with_reducible rfl) ?_) | (show R _ _ _ (_ :: _) _ _ _ _; refine R_op (by simp (maxSteps := 2000000) [hlt, hlt', hw, f1, hEl, b1, b2]; with_reducible rfl) ?_) | (show R _ _ _ [] _ _ _ _; refine R_nil (by simp; with_reducible rfl) ?_) | (show W _ (.seq (.cond _ _ _) _) _ _; first | refine W_ct (by first | (simp [hlt, hlt', hw, f1, hEl, b1, b2]; done) | fail) ?_ | refine W_cf (by first | (simp [hlt, hlt', hw, f1, hEl, b1, b2]; done) | fail) ?_) | refine W_skip ?_ | refine W_bl (c := .seq _ _) ?_ | refine W_bl (c := .region _ _) ?_ | refine W_bl (c := .cond _ _ _) ?_ | refine W_bl (c := .block _ _) ?_ | refine W_rt ?_ | refine W_ex ?_ | refine W_end ?_ | refine W_tail (a := .region _ _) ?_ | refine W_tail (a := .cond _ _ _) ?_ | refine W_tail (a := .ret) ?_ | refine W_tail (a := .exit _) ?_ | refine W_tail (a := .block _ _) ?_ | refine QB_normal ?_ | refine QB_exit ?_ | refine QB_ret ?_ | refine QB_out (by decide) ?_ | refine QL_next ?_ | refine QL_exit ?_ | refine QL_ret ?_ | refine QL_out (by decide) ?_ | (show Fin _ _ .ret _; exact Fin_ret (by first | (simp; done) | (simp; with_reducible rfl))) | (show Fin _ _ .normal _; exact Fin_end (by first | (simp; done) | (simp; with_reducible rfl))))
    refine ih' _ ?_ ?_
    · omega
    · simp [hEl, List.take_of_length_le]; try rfl

theorem frameTurned (ps : List ByteArray) (hps : ps.length ≤ 9223372036854775807) (which t0 t1 : Nat) (hw8 : which < 256) (ht0 : t0 < 4294967296) (ht1 : t1 < 4294967296) : F T 12 [.ro 1 (enc eStr ps) false, .int .u8 which, .agg [.int .u32 t0, .int .u32 t1]] [] = some (.bool true, []) := by
  have v1 := V_Long ps hps 20 200
  refine F_W T12 ?_
  simp only [c12, c12_b, Lift.start]
  cases hb : ((ps.any fun s => decide ((200 : Int) < (s.size : Int))) || decide ((20 : Int) < (ps.length : Int))) with
  | true =>
    rw [hb] at v1
    repeat (first | refine W_assoc ?_ | (show W _ (.seq (.region _ _) _) _ _; refine W_reg (by simp; with_reducible rfl) ?_) | (show R _ _ _ (_ :: _) _ _ _ _; refine R_op (by simp (maxSteps := 2000000) [v1, V_works03]; with_reducible rfl) ?_) | (show R _ _ _ [] _ _ _ _; refine R_nil (by simp; with_reducible rfl) ?_) | (show W _ (.seq (.cond _ _ _) _) _ _; first | refine W_ct (by first | (simp [v1, V_works03]; done) | fail) ?_ | refine W_cf (by first | (simp [v1, V_works03]; done) | fail) ?_) | refine W_skip ?_ | refine W_bl (c := .seq _ _) ?_ | refine W_bl (c := .region _ _) ?_ | refine W_bl (c := .cond _ _ _) ?_ | refine W_bl (c := .block _ _) ?_ | refine W_rt ?_ | refine W_ex ?_ | refine W_end ?_ | refine W_tail (a := .region _ _) ?_ | refine W_tail (a := .cond _ _ _) ?_ | refine W_tail (a := .ret) ?_ | refine W_tail (a := .exit _) ?_ | refine W_tail (a := .block _ _) ?_ | refine QB_normal ?_ | refine QB_exit ?_ | refine QB_ret ?_ | refine QB_out (by decide) ?_ | refine QL_next ?_ | refine QL_exit ?_ | refine QL_ret ?_ | refine QL_out (by decide) ?_ | (show Fin _ _ .ret _; exact Fin_ret (by first | (simp [c12]; done) | (simp [c12]; with_reducible rfl))) | (show Fin _ _ .normal _; exact Fin_end (by first | (simp [c12]; done) | (simp [c12]; with_reducible rfl))))
  | false =>
    rw [hb] at v1
    have hf := few_of hb
    clear hb
    have h20 := hf.n
    by_cases hn : ps = []
    · subst hn
      simp only [enc_nil, List.length_nil] at v1 ⊢
      repeat (first | refine W_assoc ?_ | (show W _ (.seq (.region _ _) _) _ _; refine W_reg (by simp; with_reducible rfl) ?_) | (show R _ _ _ (_ :: _) _ _ _ _; refine R_op (by simp (maxSteps := 2000000) [v1, V_works03]; with_reducible rfl) ?_) | (show R _ _ _ [] _ _ _ _; refine R_nil (by simp; with_reducible rfl) ?_) | (show W _ (.seq (.cond _ _ _) _) _ _; first | refine W_ct (by first | (simp [v1, V_works03]; done) | fail) ?_ | refine W_cf (by first | (simp [v1, V_works03]; done) | fail) ?_) | refine W_skip ?_ | refine W_bl (c := .seq _ _) ?_ | refine W_bl (c := .region _ _) ?_ | refine W_bl (c := .cond _ _ _) ?_ | refine W_bl (c := .block _ _) ?_ | refine W_rt ?_ | refine W_ex ?_ | refine W_end ?_ | refine W_tail (a := .region _ _) ?_ | refine W_tail (a := .cond _ _ _) ?_ | refine W_tail (a := .ret) ?_ | refine W_tail (a := .exit _) ?_ | refine W_tail (a := .block _ _) ?_ | refine QB_normal ?_ | refine QB_exit ?_ | refine QB_ret ?_ | refine QB_out (by decide) ?_ | refine QL_next ?_ | refine QL_exit ?_ | refine QL_ret ?_ | refine QL_out (by decide) ?_ | (show Fin _ _ .ret _; exact Fin_ret (by first | (simp [c12]; done) | (simp [c12]; with_reducible rfl))) | (show Fin _ _ .normal _; exact Fin_end (by first | (simp [c12]; done) | (simp [c12]; with_reducible rfl))))
    · have hpos : 0 < ps.length := List.length_pos_iff.2 hn
      have hn0 : ¬ (ps.length : Int) = 0 := by omega
      have hn1 : ps.length ≠ 0 := by omega
      by_cases ht : t1 = 0
      · subst ht
        repeat (first | refine W_assoc ?_ | (show W _ (.seq (.region _ _) _) _ _; refine W_reg (by simp; with_reducible rfl) ?_) | (show R _ _ _ (_ :: _) _ _ _ _; refine R_op (by simp (maxSteps := 2000000) [v1, hn, hn0, hn1, V_works03]; with_reducible rfl) ?_) | (show R _ _ _ [] _ _ _ _; refine R_nil (by simp; with_reducible rfl) ?_) | (show W _ (.seq (.cond _ _ _) _) _ _; first | refine W_ct (by first | (simp [v1, hn, hn0, hn1, V_works03]; done) | fail) ?_ | refine W_cf (by first | (simp [v1, hn, hn0, hn1, V_works03]; done) | fail) ?_) | refine W_skip ?_ | refine W_bl (c := .seq _ _) ?_ | refine W_bl (c := .region _ _) ?_ | refine W_bl (c := .cond _ _ _) ?_ | refine W_bl (c := .block _ _) ?_ | refine W_rt ?_ | refine W_ex ?_ | refine W_end ?_ | refine W_tail (a := .region _ _) ?_ | refine W_tail (a := .cond _ _ _) ?_ | refine W_tail (a := .ret) ?_ | refine W_tail (a := .exit _) ?_ | refine W_tail (a := .block _ _) ?_ | refine QB_normal ?_ | refine QB_exit ?_ | refine QB_ret ?_ | refine QB_out (by decide) ?_ | refine QL_next ?_ | refine QL_exit ?_ | refine QL_ret ?_ | refine QL_out (by decide) ?_ | (show Fin _ _ .ret _; exact Fin_ret (by first | (simp [c12]; done) | (simp [c12]; with_reducible rfl))) | (show Fin _ _ .normal _; exact Fin_end (by first | (simp [c12]; done) | (simp [c12]; with_reducible rfl))))
      · have hL := turned_loop ps hf hpos which t0 t1 hw8 ht0 (by omega) ht1 ps.length 0
        have htz : ¬ (t1 : Int) = 0 := by omega
        repeat (first | refine W_assoc ?_ | (show W _ (.seq (.region _ _) _) _ _; refine W_reg (by simp; with_reducible rfl) ?_) | (show R _ _ _ (_ :: _) _ _ _ _; refine R_op (by simp (maxSteps := 2000000) [v1, hn, hn0, hn1, ht, htz]; with_reducible rfl) ?_) | (show R _ _ _ [] _ _ _ _; refine R_nil (by simp; with_reducible rfl) ?_) | (show W _ (.seq (.cond _ _ _) _) _ _; first | refine W_ct (by first | (simp [v1, hn, hn0, hn1, ht, htz]; done) | fail) ?_ | refine W_cf (by first | (simp [v1, hn, hn0, hn1, ht, htz]; done) | fail) ?_) | refine W_skip ?_ | refine W_bl (c := .seq _ _) ?_ | refine W_bl (c := .region _ _) ?_ | refine W_bl (c := .cond _ _ _) ?_ | refine W_bl (c := .block _ _) ?_ | refine W_rt ?_ | refine W_ex ?_ | refine W_end ?_ | refine W_tail (a := .region _ _) ?_ | refine W_tail (a := .cond _ _ _) ?_ | refine W_tail (a := .ret) ?_ | refine W_tail (a := .exit _) ?_ | refine W_tail (a := .block _ _) ?_ | refine QB_normal ?_ | refine QB_exit ?_ | refine QB_ret ?_ | refine QB_out (by decide) ?_ | refine QL_next ?_ | refine QL_exit ?_ | refine QL_ret ?_ | refine QL_out (by decide) ?_ | (show Fin _ _ .ret _; exact Fin_ret (by first | (simp; done) | (simp; with_reducible rfl))) | (show Fin _ _ .normal _; exact Fin_end (by first | (simp; done) | (simp; with_reducible rfl))))
        refine hL _ ?_ ?_
        · omega
        · simp [J, En]; try rfl

end Go.Proofs.Ytnobgooojbppbac.Oct
