/- Draws: what the document selects. -/
import Derived.Test.YtnobgooojbppbaaDraw4
set_option linter.all false
set_option linter.unusedSimpArgs false
set_option maxRecDepth 100000
set_option maxHeartbeats 4000000
namespace Go.Proofs.Ytnobgooojbppbaa.Flock
open Go Go.RowKit Go.Proofs.Ytnobgooojbppbaa.Lift Go.Proofs.Ytnobgooojbppbaa.TF Go.Proofs.Ytnobgooojbppbaa.Base Go.Proofs.Ytnobgooojbppbaa.FlockIn

theorem ers_succ (l : List Int) (p j : Nat) (h : j < l.length) : (l.take (j + 1)).eraseIdx p = (l.take j).eraseIdx p ++ (if j = p then [] else [l[j]]) := by
  rw [List.take_succ_eq_append_getElem h]
  have hl : (l.take j).length = j := by simp; omega
  rcases Nat.lt_trichotomy p j with h1 | h1 | h1
  · rw [List.eraseIdx_append_of_lt_length (by omega), if_neg (by omega)]
  · subst h1
    rw [List.eraseIdx_append_of_length_le (by omega), if_pos rfl, hl, Nat.sub_self, List.eraseIdx_of_length_le (l := l.take p) (by omega)]
    rfl
  · rw [List.eraseIdx_append_of_length_le (by omega), if_neg (by omega), hl, List.eraseIdx_of_length_le (l := l.take j) (by omega), List.eraseIdx_of_length_le (by simp; omega)]

theorem ers_filter : ∀ (l : List Int) (p : Nat) (h : p < l.length), l.Nodup → l.filter (fun y => !decide (y = l[p])) = l.eraseIdx p
  | a :: l, 0, h, hn => by
    rw [List.nodup_cons] at hn
    simp only [List.getElem_cons_zero, List.eraseIdx_cons_zero, List.filter_cons, decide_true, Bool.not_true, Bool.false_eq_true, if_false]
    rw [List.filter_eq_self]
    intro b hb
    have : b ≠ a := fun e => hn.1 (e ▸ hb)
    simp [this]
  | a :: l, p + 1, h, hn => by
    rw [List.nodup_cons] at hn
    simp only [List.length_cons] at h
    have hp : p < l.length := by omega
    have hne : a ≠ l[p] := fun e => hn.1 (by rw [e]; exact List.getElem_mem hp)
    simp only [List.getElem_cons_succ, List.eraseIdx_cons_succ, List.filter_cons, hne, decide_false, Bool.not_false, if_true]
    rw [ers_filter l p hp hn.2]

theorem lst_ers (x : Nat) (p : Nat) (h : p < (lst (x : Int) 64).length) : (lst (x : Int) 64).eraseIdx p = lst (wo x (lst (x : Int) 64)[p] : Nat) 64 := by
  rw [lst_wo, ers_filter _ p h (lst_nodup x 64).1]

theorem ers_len (l : List Int) (p j : Nat) : ((l.take j).eraseIdx p).length ≤ j := by
  have := List.length_eraseIdx_le (l.take j) p
  simp at this; omega

theorem rsome_in (xs : List (List AV)) (fl : Bool) (out left : List Int) (k : Int) (p : Nat) (hl : left.length ≤ 64) (b : SCode) (Q : AEx → ASt → Prop)
    (hQ : W T b ⟨[.ro 1 xs fl, .top, .int .i64 k, .top, .top, .top, .top, .top, .own 0 0 out.length, .own 1 0 left.length, .int .i64 p, .top, .own 2 0 (left.eraseIdx p).length, .int .i64 left.length, .top, .top, .top, .top, .top, .top, .top, .top, .top, .top, .top, .top, .top, .top, .top, .top, .top, .top, .top, .top, .top, .top, .top, .top, .top, .top, .int .i64 left.length, .own 1 0 left.length, .int .i64 left.length, .bool false, .top, .top, .top, .top, .top, .top, .top, .top, .top, .top, .top, .top, .top, .top, .top], [(0, ⟨3, 1, false, enc (eInt .i64) out, 0⟩), (1, ⟨3, 1, false, enc (eInt .i64) left, 0⟩), (2, ⟨3, 1, false, enc (eInt .i64) (left.eraseIdx p), 0⟩)], 259, 0⟩ Q) :
    ∀ (n j : Nat) (st : ASt), j + n = left.length → canon [0, 2, 8, 9, 10, 12, 13] st = ⟨[.ro 1 xs fl, .top, .int .i64 k, .top, .top, .top, .top, .top, .own 0 0 out.length, .own 1 0 left.length, .int .i64 p, .top, .own 2 0 ((left.take j).eraseIdx p).length, .int .i64 j, .top, .top, .top, .top, .top, .top, .top, .top, .top, .top, .top, .top, .top, .top, .top, .top, .top, .top, .top, .top, .top, .top, .top, .top, .top, .top, .top, .top, .top, .top, .top, .top, .top, .top, .top, .top, .top, .top, .top, .top, .top, .top, .top, .top, .top], [(0, ⟨3, 1, false, enc (eInt .i64) out, 0⟩), (1, ⟨3, 1, false, enc (eInt .i64) left, 0⟩), (2, ⟨3, 1, false, enc (eInt .i64) ((left.take j).eraseIdx p), 0⟩)], 3, 0⟩ →
      W T (.seq (.block 2 (.loop [0, 2, 8, 9, 10, 12, 13] c51_l1)) b) st Q := by
  intro n
  induction n with
  | zero =>
    intro j st hj hc
    obtain rfl : j = left.length := by omega
    rw [List.take_length] at hc
    refine W_round hc ?_
    unfold c51_l1
    repeat (first | refine W_assoc ?_ | (show W _ (.seq (.region _ _) _) _ _; refine W_reg (by simp; with_reducible rfl) ?_) | (show R _ _ _ (_ :: _) _ _ _ _; refine R_op (by simp (maxSteps := 2000000); with_reducible rfl) ?_) | (show R _ _ _ [] _ _ _ _; refine R_nil (by simp; with_reducible rfl) ?_) | (show W _ (.seq (.cond _ _ _) _) _ _; first | refine W_ct (by first | (simp; done) | fail) ?_ | refine W_cf (by first | (simp; done) | fail) ?_) | refine W_skip ?_ | refine W_bl (c := .seq _ _) ?_ | refine W_bl (c := .region _ _) ?_ | refine W_bl (c := .cond _ _ _) ?_ | refine W_bl (c := .block _ _) ?_ | refine W_rt ?_ | refine W_ex ?_ | refine W_end ?_ | refine W_tail (a := .region _ _) ?_ | refine W_tail (a := .cond _ _ _) ?_ | refine W_tail (a := .ret) ?_ | refine W_tail (a := .exit _) ?_ | refine W_tail (a := .block _ _) ?_ | refine QB_normal ?_ | refine QB_exit ?_ | refine QB_ret ?_ | refine QB_out (by decide) ?_ | refine QL_next ?_ | refine QL_exit ?_ | refine QL_ret ?_ | refine QL_out (by decide) ?_ | (show Fin _ _ .ret _; exact Fin_ret (by first | (simp; done) | (simp; with_reducible rfl))) | (show Fin _ _ .normal _; exact Fin_end (by first | (simp; done) | (simp; with_reducible rfl))))
    exact hQ
  | succ n ih =>
    intro j st hj hc
    have hlt : j < left.length := by omega
    have hlt' : (j : Int) < left.length := by omega
    have hw := wrapS j _ hlt (by omega)
    have hs := ers_succ left p j hlt
    have hel := ers_len left p j
    have ih' := ih (j + 1)
    rw [hs] at ih'
    generalize (left.take j).eraseIdx p = less at *
    refine W_round hc ?_
    unfold c51_l1
    by_cases hjp : j = p
    · subst hjp
      rw [if_pos rfl, List.append_nil] at ih'
      repeat (first | refine W_assoc ?_ | (show W _ (.seq (.region _ _) _) _ _; refine W_reg (by simp; with_reducible rfl) ?_) | (show R _ _ _ (_ :: _) _ _ _ _; refine R_op (by simp (maxSteps := 2000000) [hlt', hw]; with_reducible rfl) ?_) | (show R _ _ _ [] _ _ _ _; refine R_nil (by simp; with_reducible rfl) ?_) | (show W _ (.seq (.cond _ _ _) _) _ _; first | refine W_ct (by first | (simp [hlt', hw]; done) | fail) ?_ | refine W_cf (by first | (simp [hlt', hw]; done) | fail) ?_) | refine W_skip ?_ | refine W_bl (c := .seq _ _) ?_ | refine W_bl (c := .region _ _) ?_ | refine W_bl (c := .cond _ _ _) ?_ | refine W_bl (c := .block _ _) ?_ | refine W_rt ?_ | refine W_ex ?_ | refine W_end ?_ | refine W_tail (a := .region _ _) ?_ | refine W_tail (a := .cond _ _ _) ?_ | refine W_tail (a := .ret) ?_ | refine W_tail (a := .exit _) ?_ | refine W_tail (a := .block _ _) ?_ | refine QB_normal ?_ | refine QB_exit ?_ | refine QB_ret ?_ | refine QB_out (by decide) ?_ | refine QL_next ?_ | refine QL_exit ?_ | refine QL_ret ?_ | refine QL_out (by decide) ?_ | (show Fin _ _ .ret _; exact Fin_ret (by first | (simp; done) | (simp; with_reducible rfl))) | (show Fin _ _ .normal _; exact Fin_end (by first | (simp; done) | (simp; with_reducible rfl))))
      refine ih' _ ?_ ?_
      · omega
      · simp
    · have hjp' : ¬ (j : Int) = p := by omega
      have hb : (less.length + 1) * 8 ≤ 140737488355328 := by omega
      have hb2 : less.length + 1 ≤ 140737488355328 := by omega
      rw [if_neg hjp] at ih'
      repeat (first | refine W_assoc ?_ | (show W _ (.seq (.region _ _) _) _ _; refine W_reg (by simp; with_reducible rfl) ?_) | (show R _ _ _ (_ :: _) _ _ _ _; refine R_op (by simp (maxSteps := 2000000) [hlt, hlt', hw, hjp', hb, hb2]; with_reducible rfl) ?_) | (show R _ _ _ [] _ _ _ _; refine R_nil (by simp; with_reducible rfl) ?_) | (show W _ (.seq (.cond _ _ _) _) _ _; first | refine W_ct (by first | (simp [hlt, hlt', hw, hjp', hb, hb2]; done) | fail) ?_ | refine W_cf (by first | (simp [hlt, hlt', hw, hjp', hb, hb2]; done) | fail) ?_) | refine W_skip ?_ | refine W_bl (c := .seq _ _) ?_ | refine W_bl (c := .region _ _) ?_ | refine W_bl (c := .cond _ _ _) ?_ | refine W_bl (c := .block _ _) ?_ | refine W_rt ?_ | refine W_ex ?_ | refine W_end ?_ | refine W_tail (a := .region _ _) ?_ | refine W_tail (a := .cond _ _ _) ?_ | refine W_tail (a := .ret) ?_ | refine W_tail (a := .exit _) ?_ | refine W_tail (a := .block _ _) ?_ | refine QB_normal ?_ | refine QB_exit ?_ | refine QB_ret ?_ | refine QB_out (by decide) ?_ | refine QL_next ?_ | refine QL_exit ?_ | refine QL_ret ?_ | refine QL_out (by decide) ?_ | (show Fin _ _ .ret _; exact Fin_ret (by first | (simp; done) | (simp; with_reducible rfl))) | (show Fin _ _ .normal _; exact Fin_end (by first | (simp; done) | (simp; with_reducible rfl))))
      refine ih' _ ?_ ?_
      · omega
      · simp; try rfl

theorem bl_low (l : List Int) (hu : U l) (c : Nat) (hc : c ≠ 0) : bl l c = (low l c : Nat) := by
  have h := hu.hd
  unfold bl low
  rw [if_neg (by omega)]
  generalize l.headD 0 = y at *
  obtain ⟨z, rfl⟩ := Int.eq_ofNat_of_zero_le h.1
  simp

theorem rsome_loop (k : Int) : ∀ (m x : Nat) (l out : List Int) (st : ASt), (k - out.length).toNat = m → x < 18446744073709551616 → U l → l.length ≤ 100000 → out.length + (lst (x : Int) 64).length ≤ 64 →
      canon [0, 2, 8, 9] st = ⟨[.ro 1 (enc (eInt .u64) l) false, .top, .int .i64 k, .top, .top, .top, .top, .top, .own 0 0 out.length, .own 1 0 (lst (x : Int) 64).length, .top, .top, .top, .top, .top, .top, .top, .top, .top, .top, .top, .top, .top, .top, .top, .top, .top, .top, .top, .top, .top, .top, .top, .top, .top, .top, .top, .top, .top, .top, .top, .top, .top, .top, .top, .top, .top, .top, .top, .top, .top, .top, .top, .top, .top, .top, .top, .top, .top], [(0, ⟨3, 1, false, enc (eInt .i64) out, 0⟩), (1, ⟨3, 1, false, enc (eInt .i64) (lst (x : Int) 64), 0⟩)], 2, 0⟩ →
      W T c51_k0 st (Lift.Fin c51 (.tup [.own 0 0 (out ++ (sel m l x).1).length, .ro 1 (enc (eInt .u64) (sel m l x).2) false], [⟨3, 1, false, enc (eInt .i64) (out ++ (sel m l x).1), 0⟩])) := by
  intro m
  induction m with
  | zero =>
    intro x l out st hk hx hu hll hout hc
    have h1 : ¬ (out.length : Int) < k := by omega
    simp only [sel, List.append_nil]
    generalize lst (x : Int) 64 = left at *
    unfold c51_k0
    refine W_round hc ?_
    unfold c51_l0
    by_cases h0 : left = []
    · subst h0
      repeat (first | refine W_assoc ?_ | (show W _ (.seq (.region _ _) _) _ _; refine W_reg (by simp; with_reducible rfl) ?_) | (show R _ _ _ (_ :: _) _ _ _ _; refine R_op (by simp (maxSteps := 2000000) [h1]; with_reducible rfl) ?_) | (show R _ _ _ [] _ _ _ _; refine R_nil (by simp; with_reducible rfl) ?_) | (show W _ (.seq (.cond _ _ _) _) _ _; first | refine W_ct (by first | (simp [h1]; done) | fail) ?_ | refine W_cf (by first | (simp [h1]; done) | fail) ?_) | refine W_skip ?_ | refine W_bl (c := .seq _ _) ?_ | refine W_bl (c := .region _ _) ?_ | refine W_bl (c := .cond _ _ _) ?_ | refine W_bl (c := .block _ _) ?_ | refine W_rt ?_ | refine W_ex ?_ | refine W_end ?_ | refine W_tail (a := .region _ _) ?_ | refine W_tail (a := .cond _ _ _) ?_ | refine W_tail (a := .ret) ?_ | refine W_tail (a := .exit _) ?_ | refine W_tail (a := .block _ _) ?_ | refine QB_normal ?_ | refine QB_exit ?_ | refine QB_ret ?_ | refine QB_out (by decide) ?_ | refine QL_next ?_ | refine QL_exit ?_ | refine QL_ret ?_ | refine QL_out (by decide) ?_ | (show Fin _ _ .ret _; exact Fin_ret (by first | (simp [c51]; done) | (simp [c51]; with_reducible rfl))) | (show Fin _ _ .normal _; exact Fin_end (by first | (simp [c51]; done) | (simp [c51]; with_reducible rfl))))
    · have h2 : 0 < left.length := List.length_pos_iff.2 h0
      have h3 : (0 : Int) < left.length := by omega
      repeat (first | refine W_assoc ?_ | (show W _ (.seq (.region _ _) _) _ _; refine W_reg (by simp; with_reducible rfl) ?_) | (show R _ _ _ (_ :: _) _ _ _ _; refine R_op (by simp (maxSteps := 2000000) [h1, h0, h2, h3]; with_reducible rfl) ?_) | (show R _ _ _ [] _ _ _ _; refine R_nil (by simp; with_reducible rfl) ?_) | (show W _ (.seq (.cond _ _ _) _) _ _; first | refine W_ct (by first | (simp [h1, h0, h2, h3]; done) | fail) ?_ | refine W_cf (by first | (simp [h1, h0, h2, h3]; done) | fail) ?_) | refine W_skip ?_ | refine W_bl (c := .seq _ _) ?_ | refine W_bl (c := .region _ _) ?_ | refine W_bl (c := .cond _ _ _) ?_ | refine W_bl (c := .block _ _) ?_ | refine W_rt ?_ | refine W_ex ?_ | refine W_end ?_ | refine W_tail (a := .region _ _) ?_ | refine W_tail (a := .cond _ _ _) ?_ | refine W_tail (a := .ret) ?_ | refine W_tail (a := .exit _) ?_ | refine W_tail (a := .block _ _) ?_ | refine QB_normal ?_ | refine QB_exit ?_ | refine QB_ret ?_ | refine QB_out (by decide) ?_ | refine QL_next ?_ | refine QL_exit ?_ | refine QL_ret ?_ | refine QL_out (by decide) ?_ | (show Fin _ _ .ret _; exact Fin_ret (by first | (simp [c51]; done) | (simp [c51]; with_reducible rfl))) | (show Fin _ _ .normal _; exact Fin_end (by first | (simp [c51]; done) | (simp [c51]; with_reducible rfl))))
  | succ m ih =>
    intro x l out st hk hx hu hll hout hc
    have h1 : (out.length : Int) < k := by omega
    by_cases h0 : x = 0
    · subst h0
      have e0 : lst ((0 : Nat) : Int) 64 = [] := by decide
      simp only [sel, if_true, List.append_nil]
      rw [e0] at hc
      unfold c51_k0
      refine W_round hc ?_
      unfold c51_l0
      repeat (first | refine W_assoc ?_ | (show W _ (.seq (.region _ _) _) _ _; refine W_reg (by simp; with_reducible rfl) ?_) | (show R _ _ _ (_ :: _) _ _ _ _; refine R_op (by simp (maxSteps := 2000000) [h1]; with_reducible rfl) ?_) | (show R _ _ _ [] _ _ _ _; refine R_nil (by simp; with_reducible rfl) ?_) | (show W _ (.seq (.cond _ _ _) _) _ _; first | refine W_ct (by first | (simp [h1]; done) | fail) ?_ | refine W_cf (by first | (simp [h1]; done) | fail) ?_) | refine W_skip ?_ | refine W_bl (c := .seq _ _) ?_ | refine W_bl (c := .region _ _) ?_ | refine W_bl (c := .cond _ _ _) ?_ | refine W_bl (c := .block _ _) ?_ | refine W_rt ?_ | refine W_ex ?_ | refine W_end ?_ | refine W_tail (a := .region _ _) ?_ | refine W_tail (a := .cond _ _ _) ?_ | refine W_tail (a := .ret) ?_ | refine W_tail (a := .exit _) ?_ | refine W_tail (a := .block _ _) ?_ | refine QB_normal ?_ | refine QB_exit ?_ | refine QB_ret ?_ | refine QB_out (by decide) ?_ | refine QL_next ?_ | refine QL_exit ?_ | refine QL_ret ?_ | refine QL_out (by decide) ?_ | (show Fin _ _ .ret _; exact Fin_ret (by first | (simp [c51]; done) | (simp [c51]; with_reducible rfl))) | (show Fin _ _ .normal _; exact Fin_end (by first | (simp [c51]; done) | (simp [c51]; with_reducible rfl))))
    · have hl := low_lt l x hx h0
      have hln := lst_len x 64
      obtain ⟨hn1, hn2⟩ := nth_mem x _ hl
      have hw := lst_wo_len x _ hn2
      have v1 := FV_of (F_R07Below1 l (by omega) hu (lst (x : Int) 64).length (by omega) (by omega))
      rw [bl_low l hu _ (by omega)] at v1
      simp at v1
      have e3 := lst_ers x _ hl
      rw [← hn1] at e3
      have e4 : (sel (m + 1) l x).1 = nth x (low l (lst (x : Int) 64).length : Nat) :: (sel m l.tail (wo x (nth x (low l (lst (x : Int) 64).length : Nat)))).1 := by
        simp only [sel, if_neg h0]
      have e5 : (sel (m + 1) l x).2 = (sel m l.tail (wo x (nth x (low l (lst (x : Int) 64).length : Nat)))).2 := by
        simp only [sel, if_neg h0]
      rw [e4, e5]
      have ih' := ih (wo x (nth x (low l (lst (x : Int) 64).length : Nat))) l.tail (out ++ [nth x (low l (lst (x : Int) 64).length : Nat)])
      have hwl := wo_lt x (nth x (low l (lst (x : Int) 64).length : Nat))
      rw [← e3] at ih' hw
      generalize hp : low l (lst (x : Int) 64).length = p at *
      generalize nth x (p : Int) = y at *
      generalize wo x y = x' at *
      generalize lst (x : Int) 64 = left at *
      rw [List.append_assoc, List.cons_append, List.nil_append] at ih'
      have hb : (out.length + 1) * 8 ≤ 140737488355328 := by omega
      have hb2 : out.length + 1 ≤ 140737488355328 := by omega
      have h2 : 0 < left.length := by omega
      have h3 : (0 : Int) < left.length := by omega
      unfold c51_k0
      refine W_round hc ?_
      unfold c51_l0
      repeat (first | refine W_assoc ?_ | (show W _ (.seq (.region _ _) _) _ _; refine W_reg (by simp; with_reducible rfl) ?_) | (show R _ _ _ (_ :: _) _ _ _ _; refine R_op (by simp (maxSteps := 2000000) [h1, h2, h3, v1, hl, ← hn1, hb, hb2]; with_reducible rfl) ?_) | (show R _ _ _ [] _ _ _ _; refine R_nil (by simp; with_reducible rfl) ?_) | (show W _ (.seq (.cond _ _ _) _) _ _; first | refine W_ct (by first | (simp [h1, h2, h3, v1, hl, ← hn1, hb, hb2]; done) | fail) ?_ | refine W_cf (by first | (simp [h1, h2, h3, v1, hl, ← hn1, hb, hb2]; done) | fail) ?_) | refine W_skip ?_ | refine W_bl (c := .seq _ _) ?_ | refine W_bl (c := .region _ _) ?_ | refine W_bl (c := .cond _ _ _) ?_ | refine W_bl (c := .block _ _) ?_ | refine W_rt ?_ | refine W_ex ?_ | refine W_end ?_ | refine W_tail (a := .region _ _) ?_ | refine W_tail (a := .cond _ _ _) ?_ | refine W_tail (a := .ret) ?_ | refine W_tail (a := .exit _) ?_ | refine W_tail (a := .block _ _) ?_ | refine QB_normal ?_ | refine QB_exit ?_ | refine QB_ret ?_ | refine QB_out (by decide) ?_ | refine QL_next ?_ | refine QL_exit ?_ | refine QL_ret ?_ | refine QL_out (by decide) ?_ | (show Fin _ _ .ret _; exact Fin_ret (by first | (simp; done) | (simp; with_reducible rfl))) | (show Fin _ _ .normal _; exact Fin_end (by first | (simp; done) | (simp; with_reducible rfl))))
      refine rsome_in (enc (eInt .u64) l.tail) false (out ++ [y]) left k p (by omega) _ _ ?_ left.length 0 _ ?_ ?_
      · repeat (first | refine W_assoc ?_ | (show W _ (.seq (.region _ _) _) _ _; refine W_reg (by simp; with_reducible rfl) ?_) | (show R _ _ _ (_ :: _) _ _ _ _; refine R_op (by simp (maxSteps := 2000000); with_reducible rfl) ?_) | (show R _ _ _ [] _ _ _ _; refine R_nil (by simp; with_reducible rfl) ?_) | (show W _ (.seq (.cond _ _ _) _) _ _; first | refine W_ct (by first | (simp; done) | fail) ?_ | refine W_cf (by first | (simp; done) | fail) ?_) | refine W_skip ?_ | refine W_bl (c := .seq _ _) ?_ | refine W_bl (c := .region _ _) ?_ | refine W_bl (c := .cond _ _ _) ?_ | refine W_bl (c := .block _ _) ?_ | refine W_rt ?_ | refine W_ex ?_ | refine W_end ?_ | refine W_tail (a := .region _ _) ?_ | refine W_tail (a := .cond _ _ _) ?_ | refine W_tail (a := .ret) ?_ | refine W_tail (a := .exit _) ?_ | refine W_tail (a := .block _ _) ?_ | refine QB_normal ?_ | refine QB_exit ?_ | refine QB_ret ?_ | refine QB_out (by decide) ?_ | refine QL_next ?_ | refine QL_exit ?_ | refine QL_ret ?_ | refine QL_out (by decide) ?_ | (show Fin _ _ .ret _; exact Fin_ret (by first | (simp; done) | (simp; with_reducible rfl))) | (show Fin _ _ .normal _; exact Fin_end (by first | (simp; done) | (simp; with_reducible rfl))))
        refine ih' _ ?_ ?_ ?_ ?_ ?_ ?_
        · simp; omega
        · exact hwl
        · rw [← List.drop_one]; exact hu.drop 1
        · simp; omega
        · simp; omega
        · simp; try rfl
      · omega
      · simp; try rfl

theorem F_R07Some (l : List Int) (hu : U l) (hll : l.length ≤ 100000) (x : Nat) (hx : x < 18446744073709551616) (k : Int) : F T 51 [.ro 1 (enc (eInt .u64) l) false, .int .u64 x, .int .i64 k] [] =
    some (.tup [.own 0 0 (sel k.toNat l x).1.length, .ro 1 (enc (eInt .u64) (sel k.toNat l x).2) false], [⟨3, 1, false, enc (eInt .i64) (sel k.toNat l x).1, 0⟩]) := by
  have v1 := F_R06list x hx
  have hln := lst_len x 64
  have := rsome_loop k k.toNat x l []
  simp only [List.nil_append] at this
  refine F_W T51 ?_
  simp only [c51, c51_b, Lift.start]
  repeat (first | refine W_assoc ?_ | (show W _ (.seq (.region _ _) _) _ _; refine W_reg (by simp; with_reducible rfl) ?_) | (show R _ _ _ (_ :: _) _ _ _ _; refine R_op (by simp (maxSteps := 2000000) [v1]; with_reducible rfl) ?_) | (show R _ _ _ [] _ _ _ _; refine R_nil (by simp; with_reducible rfl) ?_) | (show W _ (.seq (.cond _ _ _) _) _ _; first | refine W_ct (by first | (simp [v1]; done) | fail) ?_ | refine W_cf (by first | (simp [v1]; done) | fail) ?_) | refine W_skip ?_ | refine W_bl (c := .seq _ _) ?_ | refine W_bl (c := .region _ _) ?_ | refine W_bl (c := .cond _ _ _) ?_ | refine W_bl (c := .block _ _) ?_ | refine W_rt ?_ | refine W_ex ?_ | refine W_end ?_ | refine W_tail (a := .region _ _) ?_ | refine W_tail (a := .cond _ _ _) ?_ | refine W_tail (a := .ret) ?_ | refine W_tail (a := .exit _) ?_ | refine W_tail (a := .block _ _) ?_ | refine QB_normal ?_ | refine QB_exit ?_ | refine QB_ret ?_ | refine QB_out (by decide) ?_ | refine QL_next ?_ | refine QL_exit ?_ | refine QL_ret ?_ | refine QL_out (by decide) ?_ | (show Fin _ _ .ret _; exact Fin_ret (by first | (simp; done) | (simp; with_reducible rfl))) | (show Fin _ _ .normal _; exact Fin_end (by first | (simp; done) | (simp; with_reducible rfl))))
  refine this _ ?_ ?_ ?_ ?_ ?_ ?_
  · simp
  · exact hx
  · exact hu
  · exact hll
  · simp; omega
  · simp; try rfl

end Go.Proofs.Ytnobgooojbppbaa.Flock
