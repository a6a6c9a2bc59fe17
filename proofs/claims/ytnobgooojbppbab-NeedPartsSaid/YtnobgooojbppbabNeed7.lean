/- What tasks need: what is asked for suffices. -/
import Derived.Test.YtnobgooojbppbabNeed6
set_option linter.all false
set_option linter.unusedSimpArgs false
set_option maxRecDepth 100000
set_option maxHeartbeats 4000000
namespace Go.Proofs.Ytnobgooojbppbab.Need
open Go Go.RowKit Go.Proofs.Ytnobgooojbppbab.Lift Go.Proofs.Ytnobgooojbppbab.TND Go.Proofs.Ytnobgooojbppbab.Base Go.Proofs.Ytnobgooojbppbab.NeedPure Go.Proofs.Ytnobgooojbppbab.FlockIn Go.Proofs.Ytnobgooojbppbab.Flock

theorem kl_append : ∀ a b : List P2, kl (a ++ b) = kl a ++ kl b := by
  intro a b
  induction a with
  | nil => rfl
  | cons n a ih => simp only [List.cons_append, kl, ih]; split <;> simp

theorem says_congr {x y : Nat} : ∀ {t : Tr}, good t = true → (∀ k ∈ kl (post t), has x k = has y k) → says x t = says y t
  | .leaf n, hg, h => by
    simp [good] at hg
    rcases leaf_op hg.1 hg.2 with h1 | h1
    · simp [says, h1]
    · have := h n.2 (by simp [post, kl, h1])
      simp [says, this]
  | .no t, hg, h => by
    simp [good] at hg
    simp only [says]
    rw [says_congr hg fun k hk => h k (by rw [post, kl_append]; simp [hk])]
  | .two b l r, hg, h => by
    simp [good] at hg
    simp only [says]
    rw [says_congr hg.1 fun k hk => h k (by rw [post, kl_append, kl_append]; simp [hk]), says_congr hg.2 fun k hk => h k (by rw [post, kl_append, kl_append]; simp [hk])]

def mix (a b s : Nat) : Nat := (a &&& s) ||| (b &&& (2 ^ 64 - 1 - s))

theorem mix_lt (a b s : Nat) (ha : a < 18446744073709551616) (hb : b < 18446744073709551616) : mix a b s < 18446744073709551616 := by
  have h1 : a &&& s < 2 ^ 64 := Nat.lt_of_le_of_lt Nat.and_le_left ha
  have h2 : b &&& (2 ^ 64 - 1 - s) < 2 ^ 64 := Nat.lt_of_le_of_lt Nat.and_le_left hb
  exact Nat.or_lt_two_pow h1 h2

theorem not_bit' (q j : Nat) (hq : q < 2 ^ 64) (hj : j < 64) : (2 ^ 64 - 1 - q).testBit j = !q.testBit j := by
  rw [Nat.sub_sub, Nat.add_comm 1 q, Nat.testBit_two_pow_sub_succ hq]
  simp [hj]

theorem mix_bit (a b s j : Nat) (hs : s < 18446744073709551616) (hj : j < 64) (h : s.testBit j = true) : (mix a b s).testBit j = a.testBit j := by
  unfold mix
  rw [Nat.testBit_or, Nat.testBit_and, Nat.testBit_and, not_bit' s j hs hj, h]
  simp

theorem asks_says (a b : Nat) (l : List P2) : saysL (mix a b (asksL l)) l = saysL a l := by
  rw [asksL_eq]
  unfold saysL
  cases ht : tree l with
  | none => rfl
  | some t =>
    show says (mix a b (ofN (ofL (kl l)) 64)) t = says a t
    have hm : made l = some t := by
      unfold tree at ht
      split at ht
      · exact ht
      · cases ht
    obtain ⟨hp, hg⟩ := made_post hm
    refine says_congr hg fun k hk => ?_
    rw [← hp] at hk
    rw [has_nat, has_nat]
    by_cases h1 : 0 ≤ k
    · by_cases h2 : k < 64
      · obtain ⟨j, rfl⟩ := Int.eq_ofNat_of_zero_le h1
        have hj : j < 64 := by omega
        simp only [Int.toNat_natCast]
        rw [mix_bit _ _ _ j (ofN64_lt _) hj]
        rw [ofN_bit]
        simp only [hj, decide_true, Bool.true_and]
        unfold ofL
        rw [List.any_eq_true]
        exact ⟨_, hk, by simp⟩
      · simp [h2]
    · simp [h1]

theorem asksL_lt (l : List P2) : asksL l < 18446744073709551616 := by
  rw [asksL_eq]
  split
  · exact ofN64_lt _
  · omega

theorem asks (l : List P2) (a b : Nat) (ha : a < 18446744073709551616) (hb : b < 18446744073709551616) : F T 5 [.ro 2 (enc e2 l) false, .agg [.int .u64 a, .int .u64 b]] [] = some (.bool true, []) := by
  refine F_W T5 ?_
  simp only [c5, c5_b, Lift.start]
  by_cases h1 : 100 < l.length
  · have h1' : (100 : Int) < l.length := by omega
    repeat (first | refine W_assoc ?_ | (show W _ (.seq (.region _ _) _) _ _; refine W_reg (by simp; with_reducible rfl) ?_) | (show R _ _ _ (_ :: _) _ _ _ _; refine R_op (by simp (maxSteps := 2000000) [h1, h1', V_works09]; with_reducible rfl) ?_) | (show R _ _ _ [] _ _ _ _; refine R_nil (by simp; with_reducible rfl) ?_) | (show W _ (.seq (.cond _ _ _) _) _ _; first | refine W_ct (by first | (simp [h1, h1', V_works09]; done) | fail) ?_ | refine W_cf (by first | (simp [h1, h1', V_works09]; done) | fail) ?_) | refine W_skip ?_ | refine W_bl (c := .seq _ _) ?_ | refine W_bl (c := .region _ _) ?_ | refine W_bl (c := .cond _ _ _) ?_ | refine W_bl (c := .block _ _) ?_ | refine W_rt ?_ | refine W_ex ?_ | refine W_end ?_ | refine W_tail (a := .region _ _) ?_ | refine W_tail (a := .cond _ _ _) ?_ | refine W_tail (a := .ret) ?_ | refine W_tail (a := .exit _) ?_ | refine W_tail (a := .block _ _) ?_ | refine QB_normal ?_ | refine QB_exit ?_ | refine QB_ret ?_ | refine QB_out (by decide) ?_ | refine QL_next ?_ | refine QL_exit ?_ | refine QL_ret ?_ | refine QL_out (by decide) ?_ | (show Fin _ _ .ret _; exact Fin_ret (by first | (simp [c5]; done) | (simp [c5]; with_reducible rfl))) | (show Fin _ _ .normal _; exact Fin_end (by first | (simp [c5]; done) | (simp [c5]; with_reducible rfl))))
  have h1' : ¬ (100 : Int) < l.length := by omega
  have v1 := V_Asks l (by omega)
  have v2 := V_Says l (by omega) a ha
  have v3 := V_Says l (by omega) (mix a b (asksL l)) (mix_lt _ _ _ ha hb)
  rw [asks_says] at v3
  have hs := asksL_lt l
  generalize asksL l = s at *
  have hb0 : IntKind.u64.bits = 64 := rfl
  have hp1 : a &&& s < 18446744073709551616 := Nat.lt_of_le_of_lt Nat.and_le_left ha
  have hq1 : b &&& (2 ^ 64 - 1 - s) < 18446744073709551616 := Nat.lt_of_le_of_lt Nat.and_le_left hb
  have g1 : IntKind.u64.wrap ↑(a % 2 ^ IntKind.u64.bits &&& s % 2 ^ IntKind.u64.bits) = ((a &&& s : Nat) : Int) := by
    rw [hb0, Nat.mod_eq_of_lt ha, Nat.mod_eq_of_lt hs]; exact wrapU _ hp1
  have g2 : IntKind.u64.wrap ↑(b % 2 ^ IntKind.u64.bits &&& 2 ^ IntKind.u64.bits - 1 - s % 2 ^ IntKind.u64.bits) = ((b &&& (2 ^ 64 - 1 - s) : Nat) : Int) := by
    rw [hb0, Nat.mod_eq_of_lt hb, Nat.mod_eq_of_lt hs]; exact wrapU _ hq1
  have hm := mix_lt a b s ha hb
  unfold mix at hm v3
  generalize a &&& s = p at *
  generalize b &&& (2 ^ 64 - 1 - s) = q at *
  have g3 : IntKind.u64.wrap ↑(p % 2 ^ IntKind.u64.bits ||| q % 2 ^ IntKind.u64.bits) = ((p ||| q : Nat) : Int) := by
    rw [hb0, Nat.mod_eq_of_lt hp1, Nat.mod_eq_of_lt hq1]; exact wrapU _ hm
  repeat (first | refine W_assoc ?_ | (show W _ (.seq (.region _ _) _) _ _; refine W_reg (by simp; with_reducible rfl) ?_) | (show R _ _ _ (_ :: _) _ _ _ _; refine R_op (by simp (maxSteps := 2000000) [h1, h1', v1, v2, v3, g1, g2, g3, V_works09]; with_reducible rfl) ?_) | (show R _ _ _ [] _ _ _ _; refine R_nil (by simp; with_reducible rfl) ?_) | (show W _ (.seq (.cond _ _ _) _) _ _; first | refine W_ct (by first | (simp [h1, h1', v1, v2, v3, g1, g2, g3, V_works09]; done) | fail) ?_ | refine W_cf (by first | (simp [h1, h1', v1, v2, v3, g1, g2, g3, V_works09]; done) | fail) ?_) | refine W_skip ?_ | refine W_bl (c := .seq _ _) ?_ | refine W_bl (c := .region _ _) ?_ | refine W_bl (c := .cond _ _ _) ?_ | refine W_bl (c := .block _ _) ?_ | refine W_rt ?_ | refine W_ex ?_ | refine W_end ?_ | refine W_tail (a := .region _ _) ?_ | refine W_tail (a := .cond _ _ _) ?_ | refine W_tail (a := .ret) ?_ | refine W_tail (a := .exit _) ?_ | refine W_tail (a := .block _ _) ?_ | refine QB_normal ?_ | refine QB_exit ?_ | refine QB_ret ?_ | refine QB_out (by decide) ?_ | refine QL_next ?_ | refine QL_exit ?_ | refine QL_ret ?_ | refine QL_out (by decide) ?_ | (show Fin _ _ .ret _; exact Fin_ret (by first | (simp [c5]; done) | (simp [c5]; with_reducible rfl))) | (show Fin _ _ .normal _; exact Fin_end (by first | (simp [c5]; done) | (simp [c5]; with_reducible rfl))))

end Go.Proofs.Ytnobgooojbppbab.Need
