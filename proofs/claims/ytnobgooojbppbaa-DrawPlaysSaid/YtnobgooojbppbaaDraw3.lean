/- Draws: whatever is wanted is told by some. -/
import Derived.Test.YtnobgooojbppbaaDraw2
set_option linter.all false
set_option linter.unusedSimpArgs false
set_option maxRecDepth 100000
set_option maxHeartbeats 4000000
namespace Go.Proofs.Ytnobgooojbppbaa.Flock
open Go Go.RowKit Go.Proofs.Ytnobgooojbppbaa.Lift Go.Proofs.Ytnobgooojbppbaa.TF Go.Proofs.Ytnobgooojbppbaa.Base Go.Proofs.Ytnobgooojbppbaa.FlockIn

theorem R06_Same_loop (l m : List Int) (hl : l.length ≤ 140737488355328) (hlm : l.length = m.length) :
    ∀ (k i : Nat) (st : ASt), i + k = l.length → canon [0, 1, 5] st = ⟨[.ro 1 (enc (eInt .i64) l) false, .ro 1 (enc (eInt .i64) m) false, .top, .top, .top, .int .i64 i, .top, .top, .top, .top, .top, .top, .top, .top, .top, .top, .top, .top, .top, .top, .top, .top, .top, .top, .top, .top], [], 0, 0⟩ → W T c26_k0 st (Lift.Fin c26 (.bool (decide (l.drop i = m.drop i)), [])) := by
  intro k
  induction k with
  | zero =>
    intro i st hi hc
    have h1 : ¬ i < l.length := by omega
    have e1 : l.drop i = [] := List.drop_of_length_le (by omega)
    have e2 : m.drop i = [] := List.drop_of_length_le (by omega)
    unfold c26_k0
    refine W_exit (by rw [hc]; simp (maxSteps := 2000000) [c26_l0, h1]; with_reducible rfl) ?_
    exact W_fin (ex := .ret) (by simp (maxSteps := 2000000); with_reducible rfl) (by simp) (by first | (simp [c26, e1, e2]; done) | (simp [c26, e1, e2]; with_reducible rfl))
  | succ k ih =>
    intro i st hi hc
    have hlt : i < l.length := by omega
    have hlt2 : i < m.length := by omega
    have hw := wrapS i _ hlt hl
    have d1 := List.drop_eq_getElem_cons hlt
    have d2 := List.drop_eq_getElem_cons hlt2
    unfold c26_k0
    by_cases he : l[i] = m[i]
    · rw [d1, d2, he]
      simp only [List.cons.injEq, true_and]
      refine W_next (by rw [hc]; simp (maxSteps := 2000000) [c26_l0, hlt, hlt2, hw, he, eqCs, hlm]; with_reducible rfl) ?_
      exact ih (i + 1) _ (by omega) (by simp [hlm])
    · have hd : decide (l.drop i = m.drop i) = false := by
        rw [decide_eq_false_iff_not, d1, d2]; intro e; injection e with e _; exact he e
      rw [hd]
      exact W_ret (by rw [hc]; simp (maxSteps := 2000000) [c26_l0, hlt, hlt2, he, hlm]; with_reducible rfl) (Fin_ret (by simp [c26]))

theorem F_R06_Same (l m : List Int) (hl : l.length ≤ 1000000) (hm : m.length ≤ 1000000) : F T 26 [.ro 1 (enc (eInt .i64) l) false, .ro 1 (enc (eInt .i64) m) false] [] = some (.bool (decide (l = m)), []) := by
  refine F_W T26 ?_
  by_cases h : l.length = m.length
  · simp only [c26, c26_b, Lift.start]
    repeat (first | refine W_assoc ?_ | refine W_go (a := .region _ _) (by simp (maxSteps := 2000000) [h]; with_reducible rfl) ?_ | refine W_go (a := .cond _ _ _) (by simp (maxSteps := 2000000) [h]; with_reducible rfl) ?_ | refine W_go (a := .block _ (.seq _ _)) (by simp (maxSteps := 2000000) [h]; with_reducible rfl) ?_)
    have := R06_Same_loop l m (by omega) h l.length 0
    simp only [List.drop_zero] at this
    exact this _ (by simp) (by simp [h])
  · have h1 : decide (l = m) = false := by
      rw [decide_eq_false_iff_not]; intro e; exact h (by rw [e])
    have h2 : ¬ (l.length : Int) = (m.length : Int) := by omega
    rw [h1]
    exact W_fin (ex := .ret) (by simp (maxSteps := 2000000) [c26, c26_b, h2, h]; with_reducible rfl) (by simp) (by first | (simp [c26]; done) | (simp [c26]; with_reducible rfl))


/-- All are of a set, one after the other. -/
def Pick : Nat → List Int → Prop
  | _, [] => True
  | s, w :: ws => has s w = true ∧ Pick (wo s w) ws

def bels : Nat → List Int → List Int
  | _, [] => []
  | s, w :: ws => ((lst (s : Int) w.toNat).length : Int) :: bels (wo s w) ws

def wos : Nat → List Int → Nat
  | s, [] => s
  | s, w :: ws => wos (wo s w) ws

theorem pick_snoc : ∀ (p : List Int) (s : Nat) (w : Int), Pick s (p ++ [w]) ↔ Pick s p ∧ has (wos s p) w = true
  | [], s, w => by simp [Pick, wos]
  | a :: p, s, w => by simp [Pick, wos, pick_snoc p, and_assoc]

theorem bels_snoc : ∀ (p : List Int) (s : Nat) (w : Int), bels s (p ++ [w]) = bels s p ++ [((lst (wos s p : Nat) w.toNat).length : Int)]
  | [], s, w => by simp [bels, wos]
  | a :: p, s, w => by simp [bels, wos, bels_snoc p]

theorem wos_snoc : ∀ (p : List Int) (s : Nat) (w : Int), wos s (p ++ [w]) = wo (wos s p) w
  | [], s, w => by simp [wos]
  | a :: p, s, w => by simp [wos, wos_snoc p]

theorem bels_len : ∀ (p : List Int) (s : Nat), (bels s p).length = p.length
  | [], s => rfl
  | a :: p, s => by simp [bels, bels_len p]

theorem bels_in : ∀ (p : List Int) (s : Nat), Pick s p → ∀ y ∈ bels s p, 0 ≤ y ∧ y < 18446744073709551616
  | [], s, _, y, h => by simp [bels] at h
  | a :: p, s, hp, y, h => by
    simp only [bels, List.mem_cons] at h
    rcases h with h | h
    · subst h
      have h1 := lst_len s a.toNat
      have h2 : 0 ≤ a ∧ a < 64 := by
        have := hp.1
        rw [has_nat] at this
        simp at this
        exact ⟨this.1, this.2.1⟩
      omega
    · exact bels_in p _ hp.2 y h

theorem wos_lt : ∀ (p : List Int) (s : Nat), s < 18446744073709551616 → wos s p < 18446744073709551616
  | [], s, h => h
  | a :: p, s, h => wos_lt p _ (wo_lt _ _)

theorem sel_bels : ∀ (p : List Int) (s : Nat), s < 18446744073709551616 → Pick s p → (sel p.length (bels s p) s).1 = p
  | [], s, hs, _ => rfl
  | w :: p, s, hs, hp => by
    obtain ⟨h1, h2⟩ := hp
    have hw : 0 ≤ w ∧ w < 64 ∧ s.testBit w.toNat = true := by
      rw [has_nat] at h1
      simpa using h1
    obtain ⟨j, rfl⟩ := Int.eq_ofNat_of_zero_le hw.1
    have hj : j < 64 := by omega
    have hb : s.testBit j = true := by simpa using hw.2.2
    have h0 : s ≠ 0 := by rintro rfl; simp at hb
    have hn := (nth_below s j hj).2 hb
    have hlt : (lst (s : Int) j).length < (lst (s : Int) 64).length := by
      have h3 := (lst_prefix s (j + 1) 64 (by omega)).length_le
      rw [lst_succ] at h3
      rw [has_bit s j hj, hb] at h3
      simp at h3; omega
    have hlow : low (((lst (s : Int) j).length : Int) :: bels (wo s j) p) (lst (s : Int) 64).length = (lst (s : Int) j).length := by
      unfold low
      simp only [List.headD_cons, Int.toNat_natCast]
      exact Nat.mod_eq_of_lt hlt
    simp only [List.length_cons, bels, Int.toNat_natCast, sel, if_neg h0, hlow, hn, List.tail_cons]
    rw [sel_bels p _ (wo_lt _ _) h2]

theorem any_in (x : Nat) (want : List Int) (hw : want.length ≤ 64) (s : Nat) (hs : s < 18446744073709551616) (l : List Int) (i j : Nat) (hi : i < want.length) (hj : j < 64) (hwj : want[i] = (j : Int)) (b : SCode) (Q : AEx → ASt → Prop)
    (hQ : W T b ⟨[.int .u64 x, .ro 1 (enc (eInt .i64) want) false, .top, .top, .top, .int .u64 s, .own 0 0 l.length, .int .i64 i, .int .i64 (lst s j).length, .int .i64 j, .top, .top, .top, .top, .top, .top, .top, .top, .top, .top, .top, .top, .top, .top, .top, .top, .top, .top, .top, .int .i64 j, .ro 1 (enc (eInt .i64) want) false, .int .i64 i, .rref [.int .i64 j], .int .i64 j, .bool false, .top, .top, .top, .top, .top, .top, .top, .top, .top, .top, .top, .top, .top, .top, .top, .top, .top, .top, .top, .top, .top, .top, .top, .top, .top, .top, .top, .top, .top], [(0, ⟨41, 1, false, enc (eInt .u64) l, 0⟩)], 385, 0⟩ Q) :
    ∀ (n k : Nat) (st : ASt), k + n = j → canon [0, 1, 5, 6, 7, 8, 9] st = ⟨[.int .u64 x, .ro 1 (enc (eInt .i64) want) false, .top, .top, .top, .int .u64 s, .own 0 0 l.length, .int .i64 i, .int .i64 (lst s k).length, .int .i64 k, .top, .top, .top, .top, .top, .top, .top, .top, .top, .top, .top, .top, .top, .top, .top, .top, .top, .top, .top, .top, .top, .top, .top, .top, .top, .top, .top, .top, .top, .top, .top, .top, .top, .top, .top, .top, .top, .top, .top, .top, .top, .top, .top, .top, .top, .top, .top, .top, .top, .top, .top, .top, .top, .top], [(0, ⟨41, 1, false, enc (eInt .u64) l, 0⟩)], 1, 0⟩ →
      W T (.seq (.block 2 (.loop [0, 1, 5, 6, 7, 8, 9] c8_l1)) b) st Q := by
  intro n
  induction n with
  | zero =>
    intro k st hk hc
    obtain rfl : k = j := by omega
    refine W_round hc ?_
    unfold c8_l1
    have hlt : ¬ (k : Int) < k := by omega
    repeat (first | refine W_assoc ?_ | (show W _ (.seq (.region _ _) _) _ _; refine W_reg (by simp; with_reducible rfl) ?_) | (show R _ _ _ (_ :: _) _ _ _ _; refine R_op (by simp (maxSteps := 2000000) [hi, hwj]; with_reducible rfl) ?_) | (show R _ _ _ [] _ _ _ _; refine R_nil (by simp; with_reducible rfl) ?_) | (show W _ (.seq (.cond _ _ _) _) _ _; first | refine W_ct (by first | (simp [hi, hwj]; done) | fail) ?_ | refine W_cf (by first | (simp [hi, hwj]; done) | fail) ?_) | refine W_skip ?_ | refine W_bl (c := .seq _ _) ?_ | refine W_bl (c := .region _ _) ?_ | refine W_bl (c := .cond _ _ _) ?_ | refine W_bl (c := .block _ _) ?_ | refine W_rt ?_ | refine W_ex ?_ | refine W_end ?_ | refine W_tail (a := .region _ _) ?_ | refine W_tail (a := .cond _ _ _) ?_ | refine W_tail (a := .ret) ?_ | refine W_tail (a := .exit _) ?_ | refine W_tail (a := .block _ _) ?_ | refine QB_normal ?_ | refine QB_exit ?_ | refine QB_ret ?_ | refine QB_out (by decide) ?_ | refine QL_next ?_ | refine QL_exit ?_ | refine QL_ret ?_ | refine QL_out (by decide) ?_ | (show Fin _ _ .ret _; exact Fin_ret (by first | (simp; done) | (simp; with_reducible rfl))) | (show Fin _ _ .normal _; exact Fin_end (by first | (simp; done) | (simp; with_reducible rfl))))
    exact hQ
  | succ n ih =>
    intro k st hk hc
    have hk1 : (k : Int) < j := by omega
    have hw := wrapS k 64 (by omega) (by omega)
    have v1 := V_R05has s hs k
    have hsc := lst_succ s k
    have hll := lst_len s k
    have hw2 := wrapS (lst (s : Int) k).length 64 (by omega) (by omega)
    refine W_round hc ?_
    unfold c8_l1
    cases hh : has s k with
    | true =>
      rw [hh] at v1 hsc
      simp only [if_true] at hsc
      repeat (first | refine W_assoc ?_ | (show W _ (.seq (.region _ _) _) _ _; refine W_reg (by simp; with_reducible rfl) ?_) | (show R _ _ _ (_ :: _) _ _ _ _; refine R_op (by simp (maxSteps := 2000000) [hi, hwj, hk1, hw, hw2, v1]; with_reducible rfl) ?_) | (show R _ _ _ [] _ _ _ _; refine R_nil (by simp; with_reducible rfl) ?_) | (show W _ (.seq (.cond _ _ _) _) _ _; first | refine W_ct (by first | (simp [hi, hwj, hk1, hw, hw2, v1]; done) | fail) ?_ | refine W_cf (by first | (simp [hi, hwj, hk1, hw, hw2, v1]; done) | fail) ?_) | refine W_skip ?_ | refine W_bl (c := .seq _ _) ?_ | refine W_bl (c := .region _ _) ?_ | refine W_bl (c := .cond _ _ _) ?_ | refine W_bl (c := .block _ _) ?_ | refine W_rt ?_ | refine W_ex ?_ | refine W_end ?_ | refine W_tail (a := .region _ _) ?_ | refine W_tail (a := .cond _ _ _) ?_ | refine W_tail (a := .ret) ?_ | refine W_tail (a := .exit _) ?_ | refine W_tail (a := .block _ _) ?_ | refine QB_normal ?_ | refine QB_exit ?_ | refine QB_ret ?_ | refine QB_out (by decide) ?_ | refine QL_next ?_ | refine QL_exit ?_ | refine QL_ret ?_ | refine QL_out (by decide) ?_ | (show Fin _ _ .ret _; exact Fin_ret (by first | (simp; done) | (simp; with_reducible rfl))) | (show Fin _ _ .normal _; exact Fin_end (by first | (simp; done) | (simp; with_reducible rfl))))
      refine ih (k + 1) _ ?_ ?_
      · omega
      · rw [hsc]; simp; try rfl
    | false =>
      rw [hh] at v1 hsc
      simp only [Bool.false_eq_true, if_false, List.append_nil] at hsc
      repeat (first | refine W_assoc ?_ | (show W _ (.seq (.region _ _) _) _ _; refine W_reg (by simp; with_reducible rfl) ?_) | (show R _ _ _ (_ :: _) _ _ _ _; refine R_op (by simp (maxSteps := 2000000) [hi, hwj, hk1, hw, v1]; with_reducible rfl) ?_) | (show R _ _ _ [] _ _ _ _; refine R_nil (by simp; with_reducible rfl) ?_) | (show W _ (.seq (.cond _ _ _) _) _ _; first | refine W_ct (by first | (simp [hi, hwj, hk1, hw, v1]; done) | fail) ?_ | refine W_cf (by first | (simp [hi, hwj, hk1, hw, v1]; done) | fail) ?_) | refine W_skip ?_ | refine W_bl (c := .seq _ _) ?_ | refine W_bl (c := .region _ _) ?_ | refine W_bl (c := .cond _ _ _) ?_ | refine W_bl (c := .block _ _) ?_ | refine W_rt ?_ | refine W_ex ?_ | refine W_end ?_ | refine W_tail (a := .region _ _) ?_ | refine W_tail (a := .cond _ _ _) ?_ | refine W_tail (a := .ret) ?_ | refine W_tail (a := .exit _) ?_ | refine W_tail (a := .block _ _) ?_ | refine QB_normal ?_ | refine QB_exit ?_ | refine QB_ret ?_ | refine QB_out (by decide) ?_ | refine QL_next ?_ | refine QL_exit ?_ | refine QL_ret ?_ | refine QL_out (by decide) ?_ | (show Fin _ _ .ret _; exact Fin_ret (by first | (simp; done) | (simp; with_reducible rfl))) | (show Fin _ _ .normal _; exact Fin_end (by first | (simp; done) | (simp; with_reducible rfl))))
      refine ih (k + 1) _ ?_ ?_
      · omega
      · rw [hsc]; simp; try rfl

theorem any_loop (x : Nat) (hx : x < 18446744073709551616) (want : List Int) (hw : want.length ≤ 64) :
    ∀ (n i : Nat) (st : ASt), i + n = want.length → Pick x (want.take i) → canon [0, 1, 5, 6, 7] st = ⟨[.int .u64 x, .ro 1 (enc (eInt .i64) want) false, .top, .top, .top, .int .u64 (wos x (want.take i)), .own 0 0 (bels x (want.take i)).length, .int .i64 i, .top, .top, .top, .top, .top, .top, .top, .top, .top, .top, .top, .top, .top, .top, .top, .top, .top, .top, .top, .top, .top, .top, .top, .top, .top, .top, .top, .top, .top, .top, .top, .top, .top, .top, .top, .top, .top, .top, .top, .top, .top, .top, .top, .top, .top, .top, .top, .top, .top, .top, .top, .top, .top, .top, .top, .top], [(0, ⟨41, 1, false, enc (eInt .u64) (bels x (want.take i)), 0⟩)], 1, 0⟩ →
      W T c8_k0 st (Lift.Fin c8 (.bool true, [])) := by
  intro n
  induction n with
  | zero =>
    intro i st hi hp hc
    obtain rfl : i = want.length := by omega
    rw [List.take_length] at hp hc
    have hbl := bels_len want x
    have hbi := bels_in want x hp
    have hsel := sel_bels want x hx hp
    have v1 := F_new (bels x want) (by omega)
    have v2 := F_Some (bels x want) hbi 0 (by omega) x hx want.length
    simp only [Nat.sub_zero, List.drop_zero, Int.toNat_natCast] at v2
    rw [hsel] at v2
    have v3 := F_R06_Same want want (by omega) (by omega)
    simp only [decide_true] at v3
    generalize bels x want = l at *
    generalize adv l 0 (min want.length (lst (x : Int) 64).length) = lo' at *
    unfold c8_k0
    refine W_round hc ?_
    unfold c8_l0
    repeat (first | refine W_assoc ?_ | (show W _ (.seq (.region _ _) _) _ _; refine W_reg (by simp; with_reducible rfl) ?_) | (show R _ _ _ (_ :: _) _ _ _ _; refine R_op (by simp (maxSteps := 2000000) [v1, v2, v3, V_works07]; with_reducible rfl) ?_) | (show R _ _ _ [] _ _ _ _; refine R_nil (by simp; with_reducible rfl) ?_) | (show W _ (.seq (.cond _ _ _) _) _ _; first | refine W_ct (by first | (simp [v1, v2, v3, V_works07]; done) | fail) ?_ | refine W_cf (by first | (simp [v1, v2, v3, V_works07]; done) | fail) ?_) | refine W_skip ?_ | refine W_bl (c := .seq _ _) ?_ | refine W_bl (c := .region _ _) ?_ | refine W_bl (c := .cond _ _ _) ?_ | refine W_bl (c := .block _ _) ?_ | refine W_rt ?_ | refine W_ex ?_ | refine W_end ?_ | refine W_tail (a := .region _ _) ?_ | refine W_tail (a := .cond _ _ _) ?_ | refine W_tail (a := .ret) ?_ | refine W_tail (a := .exit _) ?_ | refine W_tail (a := .block _ _) ?_ | refine QB_normal ?_ | refine QB_exit ?_ | refine QB_ret ?_ | refine QB_out (by decide) ?_ | refine QL_next ?_ | refine QL_exit ?_ | refine QL_ret ?_ | refine QL_out (by decide) ?_ | (show Fin _ _ .ret _; exact Fin_ret (by first | (simp [c8]; done) | (simp [c8]; with_reducible rfl))) | (show Fin _ _ .normal _; exact Fin_end (by first | (simp [c8]; done) | (simp [c8]; with_reducible rfl))))
  | succ n ih =>
    intro i st hi hp hc
    have hlt : i < want.length := by omega
    have hwi := wrapS i _ hlt (by omega)
    have hs := wos_lt (want.take i) x hx
    have ht : want.take (i + 1) = want.take i ++ [want[i]] := List.take_succ_eq_append_getElem hlt
    have hbl := bels_len (want.take i) x
    have htl : (want.take i).length = i := by simp; omega
    have ih' := ih (i + 1)
    rw [ht, pick_snoc, bels_snoc, wos_snoc] at ih'
    generalize bels x (want.take i) = l at *
    generalize wos x (want.take i) = s at *
    have v1 := V_R05has s hs want[i]
    have v4 := V_R06without s hs want[i]
    unfold c8_k0
    refine W_round hc ?_
    unfold c8_l0
    cases hh : has s want[i] with
    | false =>
      rw [hh] at v1
      repeat (first | refine W_assoc ?_ | (show W _ (.seq (.region _ _) _) _ _; refine W_reg (by simp; with_reducible rfl) ?_) | (show R _ _ _ (_ :: _) _ _ _ _; refine R_op (by simp (maxSteps := 2000000) [hlt, v1, V_works07]; with_reducible rfl) ?_) | (show R _ _ _ [] _ _ _ _; refine R_nil (by simp; with_reducible rfl) ?_) | (show W _ (.seq (.cond _ _ _) _) _ _; first | refine W_ct (by first | (simp [hlt, v1, V_works07]; done) | fail) ?_ | refine W_cf (by first | (simp [hlt, v1, V_works07]; done) | fail) ?_) | refine W_skip ?_ | refine W_bl (c := .seq _ _) ?_ | refine W_bl (c := .region _ _) ?_ | refine W_bl (c := .cond _ _ _) ?_ | refine W_bl (c := .block _ _) ?_ | refine W_rt ?_ | refine W_ex ?_ | refine W_end ?_ | refine W_tail (a := .region _ _) ?_ | refine W_tail (a := .cond _ _ _) ?_ | refine W_tail (a := .ret) ?_ | refine W_tail (a := .exit _) ?_ | refine W_tail (a := .block _ _) ?_ | refine QB_normal ?_ | refine QB_exit ?_ | refine QB_ret ?_ | refine QB_out (by decide) ?_ | refine QL_next ?_ | refine QL_exit ?_ | refine QL_ret ?_ | refine QL_out (by decide) ?_ | (show Fin _ _ .ret _; exact Fin_ret (by first | (simp [c8]; done) | (simp [c8]; with_reducible rfl))) | (show Fin _ _ .normal _; exact Fin_end (by first | (simp [c8]; done) | (simp [c8]; with_reducible rfl))))
    | true =>
      rw [hh] at v1 ih'
      have hb0 := hh
      rw [has_nat] at hb0
      simp at hb0
      obtain ⟨j, hj0⟩ := Int.eq_ofNat_of_zero_le hb0.1
      have hj : j < 64 := by omega
      rw [hj0] at v4 ih'
      rw [show ((j : Int)).toNat = j from rfl] at ih'
      have hwu : IntKind.u64.wrap ((lst (s : Int) j).length : Int) = (lst (s : Int) j).length := by
        have := lst_len s j
        exact wrapU _ (by omega)
      have hb : (l.length + 1) * 8 ≤ 140737488355328 := by omega
      have hb2 : l.length + 1 ≤ 140737488355328 := by omega
      repeat (first | refine W_assoc ?_ | (show W _ (.seq (.region _ _) _) _ _; refine W_reg (by simp; with_reducible rfl) ?_) | (show R _ _ _ (_ :: _) _ _ _ _; refine R_op (by simp (maxSteps := 2000000) [hlt, v1]; with_reducible rfl) ?_) | (show R _ _ _ [] _ _ _ _; refine R_nil (by simp; with_reducible rfl) ?_) | (show W _ (.seq (.cond _ _ _) _) _ _; first | refine W_ct (by first | (simp [hlt, v1]; done) | fail) ?_ | refine W_cf (by first | (simp [hlt, v1]; done) | fail) ?_) | refine W_skip ?_ | refine W_bl (c := .seq _ _) ?_ | refine W_bl (c := .region _ _) ?_ | refine W_bl (c := .cond _ _ _) ?_ | refine W_bl (c := .block _ _) ?_ | refine W_rt ?_ | refine W_ex ?_ | refine W_end ?_ | refine W_tail (a := .region _ _) ?_ | refine W_tail (a := .cond _ _ _) ?_ | refine W_tail (a := .ret) ?_ | refine W_tail (a := .exit _) ?_ | refine W_tail (a := .block _ _) ?_ | refine QB_normal ?_ | refine QB_exit ?_ | refine QB_ret ?_ | refine QB_out (by decide) ?_ | refine QL_next ?_ | refine QL_exit ?_ | refine QL_ret ?_ | refine QL_out (by decide) ?_ | (show Fin _ _ .ret _; exact Fin_ret (by first | (simp [c8]; done) | (simp [c8]; with_reducible rfl))) | (show Fin _ _ .normal _; exact Fin_end (by first | (simp [c8]; done) | (simp [c8]; with_reducible rfl))))
      refine any_in x want hw s hs l i j hlt hj hj0 _ _ ?_ j 0 _ ?_ ?_
      · repeat (first | refine W_assoc ?_ | (show W _ (.seq (.region _ _) _) _ _; refine W_reg (by simp; with_reducible rfl) ?_) | (show R _ _ _ (_ :: _) _ _ _ _; refine R_op (by simp (maxSteps := 2000000) [hlt, hj0, hwu, hwi, v4, hb, hb2]; with_reducible rfl) ?_) | (show R _ _ _ [] _ _ _ _; refine R_nil (by simp; with_reducible rfl) ?_) | (show W _ (.seq (.cond _ _ _) _) _ _; first | refine W_ct (by first | (simp [hlt, hj0, hwu, hwi, v4, hb, hb2]; done) | fail) ?_ | refine W_cf (by first | (simp [hlt, hj0, hwu, hwi, v4, hb, hb2]; done) | fail) ?_) | refine W_skip ?_ | refine W_bl (c := .seq _ _) ?_ | refine W_bl (c := .region _ _) ?_ | refine W_bl (c := .cond _ _ _) ?_ | refine W_bl (c := .block _ _) ?_ | refine W_rt ?_ | refine W_ex ?_ | refine W_end ?_ | refine W_tail (a := .region _ _) ?_ | refine W_tail (a := .cond _ _ _) ?_ | refine W_tail (a := .ret) ?_ | refine W_tail (a := .exit _) ?_ | refine W_tail (a := .block _ _) ?_ | refine QB_normal ?_ | refine QB_exit ?_ | refine QB_ret ?_ | refine QB_out (by decide) ?_ | refine QL_next ?_ | refine QL_exit ?_ | refine QL_ret ?_ | refine QL_out (by decide) ?_ | (show Fin _ _ .ret _; exact Fin_ret (by first | (simp; done) | (simp; with_reducible rfl))) | (show Fin _ _ .normal _; exact Fin_end (by first | (simp; done) | (simp; with_reducible rfl))))
        refine ih' _ ?_ ?_ ?_
        · omega
        · exact ⟨hp, rfl⟩
        · simp; try rfl
      · omega
      · simp [lst]; try rfl

theorem any (x : Nat) (hx : x < 18446744073709551616) (want : List Int) : F T 8 [.int .u64 x, .ro 1 (enc (eInt .i64) want) false] [] = some (.bool true, []) := by
  refine F_W T8 ?_
  simp only [c8, c8_b, Lift.start]
  by_cases h1 : 64 < want.length
  · have h1' : (64 : Int) < want.length := by omega
    repeat (first | refine W_assoc ?_ | (show W _ (.seq (.region _ _) _) _ _; refine W_reg (by simp; with_reducible rfl) ?_) | (show R _ _ _ (_ :: _) _ _ _ _; refine R_op (by simp (maxSteps := 2000000) [h1, h1', V_works07]; with_reducible rfl) ?_) | (show R _ _ _ [] _ _ _ _; refine R_nil (by simp; with_reducible rfl) ?_) | (show W _ (.seq (.cond _ _ _) _) _ _; first | refine W_ct (by first | (simp [h1, h1', V_works07]; done) | fail) ?_ | refine W_cf (by first | (simp [h1, h1', V_works07]; done) | fail) ?_) | refine W_skip ?_ | refine W_bl (c := .seq _ _) ?_ | refine W_bl (c := .region _ _) ?_ | refine W_bl (c := .cond _ _ _) ?_ | refine W_bl (c := .block _ _) ?_ | refine W_rt ?_ | refine W_ex ?_ | refine W_end ?_ | refine W_tail (a := .region _ _) ?_ | refine W_tail (a := .cond _ _ _) ?_ | refine W_tail (a := .ret) ?_ | refine W_tail (a := .exit _) ?_ | refine W_tail (a := .block _ _) ?_ | refine QB_normal ?_ | refine QB_exit ?_ | refine QB_ret ?_ | refine QB_out (by decide) ?_ | refine QL_next ?_ | refine QL_exit ?_ | refine QL_ret ?_ | refine QL_out (by decide) ?_ | (show Fin _ _ .ret _; exact Fin_ret (by first | (simp [c8]; done) | (simp [c8]; with_reducible rfl))) | (show Fin _ _ .normal _; exact Fin_end (by first | (simp [c8]; done) | (simp [c8]; with_reducible rfl))))
  have h1' : ¬ (64 : Int) < want.length := by omega
  repeat (first | refine W_assoc ?_ | (show W _ (.seq (.region _ _) _) _ _; refine W_reg (by simp; with_reducible rfl) ?_) | (show R _ _ _ (_ :: _) _ _ _ _; refine R_op (by simp (maxSteps := 2000000) [h1, h1']; with_reducible rfl) ?_) | (show R _ _ _ [] _ _ _ _; refine R_nil (by simp; with_reducible rfl) ?_) | (show W _ (.seq (.cond _ _ _) _) _ _; first | refine W_ct (by first | (simp [h1, h1']; done) | fail) ?_ | refine W_cf (by first | (simp [h1, h1']; done) | fail) ?_) | refine W_skip ?_ | refine W_bl (c := .seq _ _) ?_ | refine W_bl (c := .region _ _) ?_ | refine W_bl (c := .cond _ _ _) ?_ | refine W_bl (c := .block _ _) ?_ | refine W_rt ?_ | refine W_ex ?_ | refine W_end ?_ | refine W_tail (a := .region _ _) ?_ | refine W_tail (a := .cond _ _ _) ?_ | refine W_tail (a := .ret) ?_ | refine W_tail (a := .exit _) ?_ | refine W_tail (a := .block _ _) ?_ | refine QB_normal ?_ | refine QB_exit ?_ | refine QB_ret ?_ | refine QB_out (by decide) ?_ | refine QL_next ?_ | refine QL_exit ?_ | refine QL_ret ?_ | refine QL_out (by decide) ?_ | (show Fin _ _ .ret _; exact Fin_ret (by first | (simp; done) | (simp; with_reducible rfl))) | (show Fin _ _ .normal _; exact Fin_end (by first | (simp; done) | (simp; with_reducible rfl))))
  refine any_loop x hx want (by omega) want.length 0 _ ?_ ?_ ?_
  · omega
  · simp [Pick]
  · simp [bels, wos]; try rfl

end Go.Proofs.Ytnobgooojbppbaa.Flock
