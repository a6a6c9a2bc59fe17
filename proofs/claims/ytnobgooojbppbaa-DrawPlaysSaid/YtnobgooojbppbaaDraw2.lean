/- Draws: each is of the set, and drawn once. -/
import Derived.Test.YtnobgooojbppbaaDraw
set_option linter.all false
set_option linter.unusedSimpArgs false
set_option maxRecDepth 100000
set_option maxHeartbeats 4000000
namespace Go.Proofs.Ytnobgooojbppbaa.Flock
open Go Go.RowKit Go.Proofs.Ytnobgooojbppbaa.Lift Go.Proofs.Ytnobgooojbppbaa.TF Go.Proofs.Ytnobgooojbppbaa.Base Go.Proofs.Ytnobgooojbppbaa.FlockIn

/-- All are of a set, each once. -/
def Chk (x : Nat) : Nat → List Int → Prop
  | _, [] => True
  | s, y :: ys => has x y = true ∧ has s y = false ∧ Chk x (wi s y) ys

theorem chk_sel (x : Nat) : ∀ (m : Nat) (l : List Int) (z s : Nat), z < 18446744073709551616 → (∀ j, j < 64 → z.testBit j = true → x.testBit j = true ∧ s.testBit j = false) → Chk x s (sel m l z).1
  | 0, l, z, s, hz, h => by simp [sel, Chk]
  | m + 1, l, z, s, hz, h => by
    unfold sel
    by_cases h0 : z = 0
    · rw [if_pos h0]; trivial
    · rw [if_neg h0]
      obtain ⟨_, hm⟩ := nth_mem z _ (low_lt l z hz h0)
      have hw := lst_in z _ hm
      generalize nth z (low l (lst z 64).length : Nat) = y at *
      obtain ⟨h1, h2, h3⟩ := hw
      obtain ⟨j, rfl⟩ := Int.eq_ofNat_of_zero_le h1
      have hj : j < 64 := by omega
      rw [has_bit z j hj] at h3
      have hb := h j hj h3
      refine ⟨by rw [has_bit x j hj]; exact hb.1, by rw [has_bit s j hj]; exact hb.2, ?_⟩
      refine chk_sel x m l.tail (wo z j) (wi s j) (wo_lt _ _) fun i hi hib => ?_
      rw [wo_bit z j i hi] at hib
      rw [wi_bit s j i hi]
      simp only [Bool.and_eq_true, Bool.not_eq_true', decide_eq_false_iff_not] at hib
      have := h i hi hib.1
      refine ⟨this.1, ?_⟩
      rw [this.2]
      simpa using hib.2

theorem V_works07 : FV (F T) 44 [] = some (.bool true) := by
  have hw : F T 44 [] [] = some (.bool true, []) := F_iff.2 ⟨200, by kernel_rfl⟩
  have h := FV_of hw
  simpa using h

theorem once_loop (x : Nat) (hx : x < 18446744073709551616) (k : Int) (got : List Int) (hg : got.length = min k.toNat (lst (x : Int) 64).length) :
    ∀ (n i : Nat) (s : Nat) (st : ASt), i + n = got.length → s < 18446744073709551616 → Chk x s (got.drop i) →
      canon [1, 2, 7, 8, 9] st = ⟨[.top, .int .u64 x, .int .i64 k, .top, .top, .top, .top, .own 0 0 got.length, .int .u64 s, .int .i64 i, .top, .top, .top, .top, .top, .top, .top, .top, .top, .top, .top, .top, .top, .top, .top, .top, .top, .top, .top, .top, .top, .top, .top, .top, .top, .top, .top, .top, .top, .top, .top, .top, .top, .top, .top, .top, .top, .top, .top, .top, .top, .top, .top, .top, .top, .top, .top, .top], [(0, ⟨3, 1, false, enc (eInt .i64) got, 0⟩)], 1, 0⟩ →
      W T c7_k0 st (Lift.Fin c7 (.bool true, [])) := by
  intro n
  have hll := lst_len x 64
  induction n with
  | zero =>
    intro i s st hi hs hck hc
    obtain rfl : i = got.length := by omega
    have v1 := V_R06list x hx
    generalize lst (x : Int) 64 = lx at *
    unfold c7_k0
    refine W_round hc ?_
    unfold c7_l0
    by_cases hk : k < 0
    · have e1 : got.length = 0 := by omega
      have h2 : ¬ (lx.length : Int) < 0 := by omega
      repeat (first | refine W_assoc ?_ | (show W _ (.seq (.region _ _) _) _ _; refine W_reg (by simp; with_reducible rfl) ?_) | (show R _ _ _ (_ :: _) _ _ _ _; refine R_op (by simp (maxSteps := 2000000) [hk, h2, v1, V_works07, e1]; with_reducible rfl) ?_) | (show R _ _ _ [] _ _ _ _; refine R_nil (by simp; with_reducible rfl) ?_) | (show W _ (.seq (.cond _ _ _) _) _ _; first | refine W_ct (by first | (simp [hk, h2, v1, V_works07, e1]; done) | fail) ?_ | refine W_cf (by first | (simp [hk, h2, v1, V_works07, e1]; done) | fail) ?_) | refine W_skip ?_ | refine W_bl (c := .seq _ _) ?_ | refine W_bl (c := .region _ _) ?_ | refine W_bl (c := .cond _ _ _) ?_ | refine W_bl (c := .block _ _) ?_ | refine W_rt ?_ | refine W_ex ?_ | refine W_end ?_ | refine W_tail (a := .region _ _) ?_ | refine W_tail (a := .cond _ _ _) ?_ | refine W_tail (a := .ret) ?_ | refine W_tail (a := .exit _) ?_ | refine W_tail (a := .block _ _) ?_ | refine QB_normal ?_ | refine QB_exit ?_ | refine QB_ret ?_ | refine QB_out (by decide) ?_ | refine QL_next ?_ | refine QL_exit ?_ | refine QL_ret ?_ | refine QL_out (by decide) ?_ | (show Fin _ _ .ret _; exact Fin_ret (by first | (simp [c7, e1]; done) | (simp [c7, e1]; with_reducible rfl))) | (show Fin _ _ .normal _; exact Fin_end (by first | (simp [c7, e1]; done) | (simp [c7, e1]; with_reducible rfl))))
    · by_cases hk2 : (lx.length : Int) < k
      · have e1 : got.length = lx.length := by omega
        repeat (first | refine W_assoc ?_ | (show W _ (.seq (.region _ _) _) _ _; refine W_reg (by simp; with_reducible rfl) ?_) | (show R _ _ _ (_ :: _) _ _ _ _; refine R_op (by simp (maxSteps := 2000000) [hk, hk2, v1, V_works07, e1]; with_reducible rfl) ?_) | (show R _ _ _ [] _ _ _ _; refine R_nil (by simp; with_reducible rfl) ?_) | (show W _ (.seq (.cond _ _ _) _) _ _; first | refine W_ct (by first | (simp [hk, hk2, v1, V_works07, e1]; done) | fail) ?_ | refine W_cf (by first | (simp [hk, hk2, v1, V_works07, e1]; done) | fail) ?_) | refine W_skip ?_ | refine W_bl (c := .seq _ _) ?_ | refine W_bl (c := .region _ _) ?_ | refine W_bl (c := .cond _ _ _) ?_ | refine W_bl (c := .block _ _) ?_ | refine W_rt ?_ | refine W_ex ?_ | refine W_end ?_ | refine W_tail (a := .region _ _) ?_ | refine W_tail (a := .cond _ _ _) ?_ | refine W_tail (a := .ret) ?_ | refine W_tail (a := .exit _) ?_ | refine W_tail (a := .block _ _) ?_ | refine QB_normal ?_ | refine QB_exit ?_ | refine QB_ret ?_ | refine QB_out (by decide) ?_ | refine QL_next ?_ | refine QL_exit ?_ | refine QL_ret ?_ | refine QL_out (by decide) ?_ | (show Fin _ _ .ret _; exact Fin_ret (by first | (simp [c7, e1]; done) | (simp [c7, e1]; with_reducible rfl))) | (show Fin _ _ .normal _; exact Fin_end (by first | (simp [c7, e1]; done) | (simp [c7, e1]; with_reducible rfl))))
      · have e1 : (got.length : Int) = k := by omega
        repeat (first | refine W_assoc ?_ | (show W _ (.seq (.region _ _) _) _ _; refine W_reg (by simp; with_reducible rfl) ?_) | (show R _ _ _ (_ :: _) _ _ _ _; refine R_op (by simp (maxSteps := 2000000) [hk, hk2, v1, V_works07, e1]; with_reducible rfl) ?_) | (show R _ _ _ [] _ _ _ _; refine R_nil (by simp; with_reducible rfl) ?_) | (show W _ (.seq (.cond _ _ _) _) _ _; first | refine W_ct (by first | (simp [hk, hk2, v1, V_works07, e1]; done) | fail) ?_ | refine W_cf (by first | (simp [hk, hk2, v1, V_works07, e1]; done) | fail) ?_) | refine W_skip ?_ | refine W_bl (c := .seq _ _) ?_ | refine W_bl (c := .region _ _) ?_ | refine W_bl (c := .cond _ _ _) ?_ | refine W_bl (c := .block _ _) ?_ | refine W_rt ?_ | refine W_ex ?_ | refine W_end ?_ | refine W_tail (a := .region _ _) ?_ | refine W_tail (a := .cond _ _ _) ?_ | refine W_tail (a := .ret) ?_ | refine W_tail (a := .exit _) ?_ | refine W_tail (a := .block _ _) ?_ | refine QB_normal ?_ | refine QB_exit ?_ | refine QB_ret ?_ | refine QB_out (by decide) ?_ | refine QL_next ?_ | refine QL_exit ?_ | refine QL_ret ?_ | refine QL_out (by decide) ?_ | (show Fin _ _ .ret _; exact Fin_ret (by first | (simp [c7, e1]; done) | (simp [c7, e1]; with_reducible rfl))) | (show Fin _ _ .normal _; exact Fin_end (by first | (simp [c7, e1]; done) | (simp [c7, e1]; with_reducible rfl))))
  | succ n ih =>
    intro i s st hi hs hck hc
    have hlt : i < got.length := by omega
    have hw := wrapS i _ hlt (by omega)
    rw [List.drop_eq_getElem_cons hlt] at hck
    obtain ⟨h1, h2, h3⟩ := hck
    have v1 := V_R05has x hx got[i]
    have v2 := V_R05has s hs got[i]
    have v3 := V_R06with s hs got[i]
    rw [h1] at v1
    rw [h2] at v2
    have hwl := wi_lt s got[i]
    unfold c7_k0
    refine W_round hc ?_
    unfold c7_l0
    repeat (first | refine W_assoc ?_ | (show W _ (.seq (.region _ _) _) _ _; refine W_reg (by simp; with_reducible rfl) ?_) | (show R _ _ _ (_ :: _) _ _ _ _; refine R_op (by simp (maxSteps := 2000000) [hlt, hw, v1, v2, v3]; with_reducible rfl) ?_) | (show R _ _ _ [] _ _ _ _; refine R_nil (by simp; with_reducible rfl) ?_) | (show W _ (.seq (.cond _ _ _) _) _ _; first | refine W_ct (by first | (simp [hlt, hw, v1, v2, v3]; done) | fail) ?_ | refine W_cf (by first | (simp [hlt, hw, v1, v2, v3]; done) | fail) ?_) | refine W_skip ?_ | refine W_bl (c := .seq _ _) ?_ | refine W_bl (c := .region _ _) ?_ | refine W_bl (c := .cond _ _ _) ?_ | refine W_bl (c := .block _ _) ?_ | refine W_rt ?_ | refine W_ex ?_ | refine W_end ?_ | refine W_tail (a := .region _ _) ?_ | refine W_tail (a := .cond _ _ _) ?_ | refine W_tail (a := .ret) ?_ | refine W_tail (a := .exit _) ?_ | refine W_tail (a := .block _ _) ?_ | refine QB_normal ?_ | refine QB_exit ?_ | refine QB_ret ?_ | refine QB_out (by decide) ?_ | refine QL_next ?_ | refine QL_exit ?_ | refine QL_ret ?_ | refine QL_out (by decide) ?_ | (show Fin _ _ .ret _; exact Fin_ret (by first | (simp; done) | (simp; with_reducible rfl))) | (show Fin _ _ .normal _; exact Fin_end (by first | (simp; done) | (simp; with_reducible rfl))))
    refine ih (i + 1) _ _ ?_ hwl h3 ?_
    · omega
    · simp

theorem once (l : List Int) (hl : ∀ y ∈ l, 0 ≤ y ∧ y < 18446744073709551616) (x : Nat) (hx : x < 18446744073709551616) (k : Int) :
    F T 7 [.ro 1 (enc (eInt .u64) l) false, .int .u64 x, .int .i64 k] [] = some (.bool true, []) := by
  refine F_W T7 ?_
  simp only [c7, c7_b, Lift.start]
  by_cases h1 : 100 < l.length
  · have h1' : (100 : Int) < l.length := by omega
    repeat (first | refine W_assoc ?_ | (show W _ (.seq (.region _ _) _) _ _; refine W_reg (by simp; with_reducible rfl) ?_) | (show R _ _ _ (_ :: _) _ _ _ _; refine R_op (by simp (maxSteps := 2000000) [h1, h1', V_works07]; with_reducible rfl) ?_) | (show R _ _ _ [] _ _ _ _; refine R_nil (by simp; with_reducible rfl) ?_) | (show W _ (.seq (.cond _ _ _) _) _ _; first | refine W_ct (by first | (simp [h1, h1', V_works07]; done) | fail) ?_ | refine W_cf (by first | (simp [h1, h1', V_works07]; done) | fail) ?_) | refine W_skip ?_ | refine W_bl (c := .seq _ _) ?_ | refine W_bl (c := .region _ _) ?_ | refine W_bl (c := .cond _ _ _) ?_ | refine W_bl (c := .block _ _) ?_ | refine W_rt ?_ | refine W_ex ?_ | refine W_end ?_ | refine W_tail (a := .region _ _) ?_ | refine W_tail (a := .cond _ _ _) ?_ | refine W_tail (a := .ret) ?_ | refine W_tail (a := .exit _) ?_ | refine W_tail (a := .block _ _) ?_ | refine QB_normal ?_ | refine QB_exit ?_ | refine QB_ret ?_ | refine QB_out (by decide) ?_ | refine QL_next ?_ | refine QL_exit ?_ | refine QL_ret ?_ | refine QL_out (by decide) ?_ | (show Fin _ _ .ret _; exact Fin_ret (by first | (simp [c7]; done) | (simp [c7]; with_reducible rfl))) | (show Fin _ _ .normal _; exact Fin_end (by first | (simp [c7]; done) | (simp [c7]; with_reducible rfl))))
  have h1' : ¬ (100 : Int) < l.length := by omega
  have v1 := F_new l (by omega)
  have v2 := F_Some l hl 0 (by omega) x hx k
  simp only [Nat.sub_zero, List.drop_zero] at v2
  have hg := sel_len k.toNat l x hx
  have hck := chk_sel x k.toNat l x 0 hx (fun j hj hb => ⟨hb, by simp⟩)
  generalize (sel k.toNat l x).1 = got at *
  generalize adv l 0 (min k.toNat (lst (x : Int) 64).length) = lo' at *
  repeat (first | refine W_assoc ?_ | (show W _ (.seq (.region _ _) _) _ _; refine W_reg (by simp; with_reducible rfl) ?_) | (show R _ _ _ (_ :: _) _ _ _ _; refine R_op (by simp (maxSteps := 2000000) [h1, h1', v1, v2, V_works07]; with_reducible rfl) ?_) | (show R _ _ _ [] _ _ _ _; refine R_nil (by simp; with_reducible rfl) ?_) | (show W _ (.seq (.cond _ _ _) _) _ _; first | refine W_ct (by first | (simp [h1, h1', v1, v2, V_works07]; done) | fail) ?_ | refine W_cf (by first | (simp [h1, h1', v1, v2, V_works07]; done) | fail) ?_) | refine W_skip ?_ | refine W_bl (c := .seq _ _) ?_ | refine W_bl (c := .region _ _) ?_ | refine W_bl (c := .cond _ _ _) ?_ | refine W_bl (c := .block _ _) ?_ | refine W_rt ?_ | refine W_ex ?_ | refine W_end ?_ | refine W_tail (a := .region _ _) ?_ | refine W_tail (a := .cond _ _ _) ?_ | refine W_tail (a := .ret) ?_ | refine W_tail (a := .exit _) ?_ | refine W_tail (a := .block _ _) ?_ | refine QB_normal ?_ | refine QB_exit ?_ | refine QB_ret ?_ | refine QB_out (by decide) ?_ | refine QL_next ?_ | refine QL_exit ?_ | refine QL_ret ?_ | refine QL_out (by decide) ?_ | (show Fin _ _ .ret _; exact Fin_ret (by first | (simp; done) | (simp; with_reducible rfl))) | (show Fin _ _ .normal _; exact Fin_end (by first | (simp; done) | (simp; with_reducible rfl))))
  refine once_loop x hx k got hg got.length 0 0 _ ?_ ?_ ?_ ?_
  · omega
  · omega
  · exact hck
  · simp

end Go.Proofs.Ytnobgooojbppbaa.Flock
