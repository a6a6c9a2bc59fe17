/- Draws: each answer of a tape is the document's. -/
import Derived.Test.YtnobgooojbppbaaDraw5
set_option linter.all false
set_option linter.unusedSimpArgs false
set_option maxRecDepth 100000
set_option maxHeartbeats 8000000
namespace Go.Proofs.Ytnobgooojbppbaa.Flock
open Go Go.RowKit Go.Proofs.Ytnobgooojbppbaa.Lift Go.Proofs.Ytnobgooojbppbaa.TF Go.Proofs.Ytnobgooojbppbaa.Base Go.Proofs.Ytnobgooojbppbaa.FlockIn

/-- What is asked: which, a number, a set. -/
abbrev P3 := Int × Int × Int
@[simp] def e3 (p : P3) : List AV := [.int .i64 p.1, .int .i64 p.2.1, .int .u64 p.2.2]
instance : Plain e3 := ⟨fun a => rfl⟩
def okA (a : P3) : Prop := (-9223372036854775808 ≤ a.2.1 ∧ a.2.1 ≤ 9223372036854775807) ∧ 0 ≤ a.2.2 ∧ a.2.2 < 18446744073709551616

theorem sel_rest : ∀ (m : Nat) (l : List Int) (x : Nat), x < 18446744073709551616 → (sel m l x).2 = l.drop (min m (lst (x : Int) 64).length)
  | 0, l, x, hx => by simp [sel]
  | m + 1, l, x, hx => by
    by_cases h0 : x = 0
    · subst h0
      have e0 : lst ((0 : Nat) : Int) 64 = [] := by decide
      rw [Int.natCast_zero, show lst 0 64 = [] from e0]; simp [sel]
    · have hl := low_lt l x hx h0
      obtain ⟨_, hn2⟩ := nth_mem x _ hl
      have hw := lst_wo_len x _ hn2
      simp only [sel, if_neg h0]
      rw [sel_rest m _ _ (wo_lt _ _), ← List.drop_one, List.drop_drop]
      congr 1
      omega

theorem adv_drop (r : List Int) (lo j : Nat) : r.drop (adv r lo j) = (r.drop lo).drop j := by
  unfold adv
  rw [List.drop_drop]
  rcases Nat.lt_or_ge (lo + j) r.length with h | h
  · rw [Nat.min_eq_left (by omega)]
  · rw [Nat.min_eq_right h, List.drop_of_length_le (by omega), List.drop_of_length_le (by omega)]

theorem N_add (l : List Int) : F T 52 [.nilP, .ro 1 (enc (eInt .u64) l) false] [] = some (.tup [], []) := by
  refine F_W T52 ?_
  simp only [c52, c52_b, Lift.start]
  repeat (first | refine W_assoc ?_ | (show W _ (.seq (.region _ _) _) _ _; refine W_reg (by simp; with_reducible rfl) ?_) | (show R _ _ _ (_ :: _) _ _ _ _; refine R_op (by simp (maxSteps := 2000000); with_reducible rfl) ?_) | (show R _ _ _ [] _ _ _ _; refine R_nil (by simp; with_reducible rfl) ?_) | (show W _ (.seq (.cond _ _ _) _) _ _; first | refine W_ct (by first | (simp; done) | fail) ?_ | refine W_cf (by first | (simp; done) | fail) ?_) | refine W_skip ?_ | refine W_bl (c := .seq _ _) ?_ | refine W_bl (c := .region _ _) ?_ | refine W_bl (c := .cond _ _ _) ?_ | refine W_bl (c := .block _ _) ?_ | refine W_rt ?_ | refine W_ex ?_ | refine W_end ?_ | refine W_tail (a := .region _ _) ?_ | refine W_tail (a := .cond _ _ _) ?_ | refine W_tail (a := .ret) ?_ | refine W_tail (a := .exit _) ?_ | refine W_tail (a := .block _ _) ?_ | refine QB_normal ?_ | refine QB_exit ?_ | refine QB_ret ?_ | refine QB_out (by decide) ?_ | refine QL_next ?_ | refine QL_exit ?_ | refine QL_ret ?_ | refine QL_out (by decide) ?_ | (show Fin _ _ .ret _; exact Fin_ret (by first | (simp [c52]; done) | (simp [c52]; with_reducible rfl))) | (show Fin _ _ .normal _; exact Fin_end (by first | (simp [c52]; done) | (simp [c52]; with_reducible rfl))))
theorem N_next : F T 48 [.nilP] [] = some (.int .u64 0, []) := F_iff.2 ⟨200, by kernel_rfl⟩
theorem N_below : F T 50 [.nilP, .int .i64 9] [] = some (.int .i64 0, []) := F_iff.2 ⟨200, by kernel_rfl⟩
theorem N_belowk (k : Int) (h1 : 1 ≤ k) (h2 : k ≤ 64) : F T 50 [.nilP, .int .i64 k] [] = some (.int .i64 0, []) := by
  obtain ⟨g1, g2, g3⟩ := rem_facts 0 k (by omega) h1 (by omega)
  have h3 : ¬ k < 1 := by omega
  have h4 : ¬ k = 0 := by omega
  have h6 : IntKind.i64.wrap 0 = 0 := by decide
  have v1 := N_next
  refine F_W T50 ?_
  simp only [c50, c50_b, Lift.start]
  repeat (first | refine W_assoc ?_ | (show W _ (.seq (.region _ _) _) _ _; refine W_reg (by simp; with_reducible rfl) ?_) | (show R _ _ _ (_ :: _) _ _ _ _; refine R_op (by simp (maxSteps := 2000000) [h3, h4, v1, g1, g2, g3, h6]; with_reducible rfl) ?_) | (show R _ _ _ [] _ _ _ _; refine R_nil (by simp; with_reducible rfl) ?_) | (show W _ (.seq (.cond _ _ _) _) _ _; first | refine W_ct (by first | (simp [h3, h4, v1, g1, g2, g3, h6]; done) | fail) ?_ | refine W_cf (by first | (simp [h3, h4, v1, g1, g2, g3, h6]; done) | fail) ?_) | refine W_skip ?_ | refine W_bl (c := .seq _ _) ?_ | refine W_bl (c := .region _ _) ?_ | refine W_bl (c := .cond _ _ _) ?_ | refine W_bl (c := .block _ _) ?_ | refine W_rt ?_ | refine W_ex ?_ | refine W_end ?_ | refine W_tail (a := .region _ _) ?_ | refine W_tail (a := .cond _ _ _) ?_ | refine W_tail (a := .ret) ?_ | refine W_tail (a := .exit _) ?_ | refine W_tail (a := .block _ _) ?_ | refine QB_normal ?_ | refine QB_exit ?_ | refine QB_ret ?_ | refine QB_out (by decide) ?_ | refine QL_next ?_ | refine QL_exit ?_ | refine QL_ret ?_ | refine QL_out (by decide) ?_ | (show Fin _ _ .ret _; exact Fin_ret (by first | (simp [c50]; done) | (simp [c50]; with_reducible rfl))) | (show Fin _ _ .normal _; exact Fin_end (by first | (simp [c50]; done) | (simp [c50]; with_reducible rfl))))
theorem N_left : F T 55 [.nilP] [] = some (.own 0 0 0, [tr []]) := F_iff.2 ⟨200, by kernel_rfl⟩
theorem N_clone : F T 53 [.nilP] [] = some (.nilP, []) := F_iff.2 ⟨200, by kernel_rfl⟩
theorem sel6 : (sel 9 [] 6).1 = [1, 2] := by decide
theorem sel6' : (sel 9 [] 6).2 = [] := by decide
theorem lst6 : lst 6 64 = [1, 2] := by decide
theorem lst4 : lst ((4 : Nat) : Int) 64 = [2] := by decide
theorem N_rsome : FV (F T) 51 [.ro 1 [] false, .int .u64 6, .int .i64 9] = some (.tup [.ro 1 (enc (eInt .i64) [1, 2]) false, .ro 1 [] false]) := by
  have h := FV_of (F_R07Some [] (fun y hy => by simp at hy) (by simp) 6 (by omega) 9)
  rw [show (sel (9 : Int).toNat [] 6) = ([1, 2], []) by decide] at h
  simpa using h
theorem V_same12 : FV (F T) 26 [.ro 1 (enc (eInt .i64) [1, 2]) false, .ro 1 (enc (eInt .i64) [1, 2]) false] = some (.bool true) := by
  have h := FV_of (F_R06_Same [1, 2] [1, 2] (by simp) (by simp))
  simpa using h

theorem simple_fz (L : List Nat) (g : AV → AV) (c : AV) (h : simple c = true) : c.fz L g = c := by cases c <;> simp_all [simple]
@[simp] theorem enc_fzS {α : Type} (e : α → List AV) [h : Simple e] (l : List α) (L : List Nat) (g : AV → AV) : (enc e l).map (fun x => x.map (fun c => AV.fz L g c)) = enc e l := by
  simp only [enc, List.map_map]
  refine List.map_congr_left fun a _ => ?_
  exact (List.map_congr_left fun c hc => simple_fz L g c (List.all_eq_true.1 (h.all a) c hc)).trans (List.map_id _)

theorem low0 (c : Nat) : low [] c = 0 := by simp [low]

theorem nsome_loop (k : Int) : ∀ (m x : Nat) (out : List Int) (st : ASt), (k - out.length).toNat = m → x < 18446744073709551616 → out.length + (lst (x : Int) 64).length ≤ 64 →
      canon [0, 1, 2, 7] st = ⟨[.int .u64 x, .int .i64 k, .fn (.func 50) [.nilP] [], .top, .top, .top, .top, .own 0 0 out.length, .top, .top, .top, .top, .top, .top, .top, .top, .top, .top, .top, .top, .top, .top, .top, .top, .top, .top, .top, .top, .top, .top, .top], [(0, ⟨3, 1, false, enc (eInt .i64) out, 0⟩)], 1, 0⟩ →
      W T c111_k0 st (Lift.Fin c111 (.own 0 0 (out ++ (sel m [] x).1).length, [⟨3, 1, false, enc (eInt .i64) (out ++ (sel m [] x).1), 0⟩])) := by
  intro m
  induction m with
  | zero =>
    intro x out st hk hx hout hc
    have h1 : ¬ (out.length : Int) < k := by omega
    simp only [sel, List.append_nil]
    unfold c111_k0
    refine W_round hc ?_
    unfold c111_l0
    by_cases h0 : x = 0
    · repeat (first | refine W_assoc ?_ | (show W _ (.seq (.region _ _) _) _ _; refine W_reg (by simp; with_reducible rfl) ?_) | (show R _ _ _ (_ :: _) _ _ _ _; refine R_op (by simp (maxSteps := 2000000) [h0, h1]; with_reducible rfl) ?_) | (show R _ _ _ [] _ _ _ _; refine R_nil (by simp; with_reducible rfl) ?_) | (show W _ (.seq (.cond _ _ _) _) _ _; first | refine W_ct (by first | (simp [h0, h1]; done) | fail) ?_ | refine W_cf (by first | (simp [h0, h1]; done) | fail) ?_) | refine W_skip ?_ | refine W_bl (c := .seq _ _) ?_ | refine W_bl (c := .region _ _) ?_ | refine W_bl (c := .cond _ _ _) ?_ | refine W_bl (c := .block _ _) ?_ | refine W_rt ?_ | refine W_ex ?_ | refine W_end ?_ | refine W_tail (a := .region _ _) ?_ | refine W_tail (a := .cond _ _ _) ?_ | refine W_tail (a := .ret) ?_ | refine W_tail (a := .exit _) ?_ | refine W_tail (a := .block _ _) ?_ | refine QB_normal ?_ | refine QB_exit ?_ | refine QB_ret ?_ | refine QB_out (by decide) ?_ | refine QL_next ?_ | refine QL_exit ?_ | refine QL_ret ?_ | refine QL_out (by decide) ?_ | (show Fin _ _ .ret _; exact Fin_ret (by first | (simp [c111]; done) | (simp [c111]; with_reducible rfl))) | (show Fin _ _ .normal _; exact Fin_end (by first | (simp [c111]; done) | (simp [c111]; with_reducible rfl))))
    · repeat (first | refine W_assoc ?_ | (show W _ (.seq (.region _ _) _) _ _; refine W_reg (by simp; with_reducible rfl) ?_) | (show R _ _ _ (_ :: _) _ _ _ _; refine R_op (by simp (maxSteps := 2000000) [h0, h1]; with_reducible rfl) ?_) | (show R _ _ _ [] _ _ _ _; refine R_nil (by simp; with_reducible rfl) ?_) | (show W _ (.seq (.cond _ _ _) _) _ _; first | refine W_ct (by first | (simp [h0, h1]; done) | fail) ?_ | refine W_cf (by first | (simp [h0, h1]; done) | fail) ?_) | refine W_skip ?_ | refine W_bl (c := .seq _ _) ?_ | refine W_bl (c := .region _ _) ?_ | refine W_bl (c := .cond _ _ _) ?_ | refine W_bl (c := .block _ _) ?_ | refine W_rt ?_ | refine W_ex ?_ | refine W_end ?_ | refine W_tail (a := .region _ _) ?_ | refine W_tail (a := .cond _ _ _) ?_ | refine W_tail (a := .ret) ?_ | refine W_tail (a := .exit _) ?_ | refine W_tail (a := .block _ _) ?_ | refine QB_normal ?_ | refine QB_exit ?_ | refine QB_ret ?_ | refine QB_out (by decide) ?_ | refine QL_next ?_ | refine QL_exit ?_ | refine QL_ret ?_ | refine QL_out (by decide) ?_ | (show Fin _ _ .ret _; exact Fin_ret (by first | (simp [c111]; done) | (simp [c111]; with_reducible rfl))) | (show Fin _ _ .normal _; exact Fin_end (by first | (simp [c111]; done) | (simp [c111]; with_reducible rfl))))
  | succ m ih =>
    intro x out st hk hx hout hc
    have h1 : (out.length : Int) < k := by omega
    by_cases h0 : x = 0
    · subst h0
      simp only [sel, if_true, List.append_nil]
      unfold c111_k0
      refine W_round hc ?_
      unfold c111_l0
      repeat (first | refine W_assoc ?_ | (show W _ (.seq (.region _ _) _) _ _; refine W_reg (by simp; with_reducible rfl) ?_) | (show R _ _ _ (_ :: _) _ _ _ _; refine R_op (by simp (maxSteps := 2000000) [h1]; with_reducible rfl) ?_) | (show R _ _ _ [] _ _ _ _; refine R_nil (by simp; with_reducible rfl) ?_) | (show W _ (.seq (.cond _ _ _) _) _ _; first | refine W_ct (by first | (simp [h1]; done) | fail) ?_ | refine W_cf (by first | (simp [h1]; done) | fail) ?_) | refine W_skip ?_ | refine W_bl (c := .seq _ _) ?_ | refine W_bl (c := .region _ _) ?_ | refine W_bl (c := .cond _ _ _) ?_ | refine W_bl (c := .block _ _) ?_ | refine W_rt ?_ | refine W_ex ?_ | refine W_end ?_ | refine W_tail (a := .region _ _) ?_ | refine W_tail (a := .cond _ _ _) ?_ | refine W_tail (a := .ret) ?_ | refine W_tail (a := .exit _) ?_ | refine W_tail (a := .block _ _) ?_ | refine QB_normal ?_ | refine QB_exit ?_ | refine QB_ret ?_ | refine QB_out (by decide) ?_ | refine QL_next ?_ | refine QL_exit ?_ | refine QL_ret ?_ | refine QL_out (by decide) ?_ | (show Fin _ _ .ret _; exact Fin_ret (by first | (simp [c111]; done) | (simp [c111]; with_reducible rfl))) | (show Fin _ _ .normal _; exact Fin_end (by first | (simp [c111]; done) | (simp [c111]; with_reducible rfl))))
    · have hl := low_lt [] x hx h0
      have hll := lst_len x 64
      obtain ⟨hn1, hn2⟩ := nth_mem x _ hl
      have hw := lst_wo_len x _ hn2
      have v1 := V_count x hx
      have v2 := N_belowk (lst (x : Int) 64).length (by omega) (by omega)
      have v3 := V_nth x hx (low [] (lst (x : Int) 64).length : Nat) (by omega) (by omega)
      have v4 := V_without x hx (nth x (low [] (lst (x : Int) 64).length : Nat))
      have e4 : (sel (m + 1) [] x).1 = nth x (low [] (lst (x : Int) 64).length : Nat) :: (sel m [] (wo x (nth x (low [] (lst (x : Int) 64).length : Nat)))).1 := by
        simp only [sel, if_neg h0, List.tail_nil]
      have ih' := ih (wo x (nth x (low [] (lst (x : Int) 64).length : Nat))) (out ++ [nth x (low [] (lst (x : Int) 64).length : Nat)])
      rw [e4]
      have hwl := wo_lt x (nth x (low [] (lst (x : Int) 64).length : Nat))
      rw [low0] at *
      rw [show ((0 : Nat) : Int) = 0 from rfl] at *
      generalize nth x 0 = y at *
      generalize wo x y = x' at *
      rw [List.append_assoc, List.cons_append, List.nil_append] at ih'
      have hb : (out.length + 1) * 8 ≤ 140737488355328 := by omega
      have hb2 : out.length + 1 ≤ 140737488355328 := by omega
      unfold c111_k0
      refine W_round hc ?_
      unfold c111_l0
      repeat (first | refine W_assoc ?_ | (show W _ (.seq (.region _ _) _) _ _; refine W_reg (by simp; with_reducible rfl) ?_) | (show R _ _ _ (_ :: _) _ _ _ _; refine R_op (by simp (maxSteps := 2000000) [h0, h1, v1, v2, v3, v4, hb, hb2]; with_reducible rfl) ?_) | (show R _ _ _ [] _ _ _ _; refine R_nil (by simp; with_reducible rfl) ?_) | (show W _ (.seq (.cond _ _ _) _) _ _; first | refine W_ct (by first | (simp [h0, h1, v1, v2, v3, v4, hb, hb2]; done) | fail) ?_ | refine W_cf (by first | (simp [h0, h1, v1, v2, v3, v4, hb, hb2]; done) | fail) ?_) | refine W_skip ?_ | refine W_bl (c := .seq _ _) ?_ | refine W_bl (c := .region _ _) ?_ | refine W_bl (c := .cond _ _ _) ?_ | refine W_bl (c := .block _ _) ?_ | refine W_rt ?_ | refine W_ex ?_ | refine W_end ?_ | refine W_tail (a := .region _ _) ?_ | refine W_tail (a := .cond _ _ _) ?_ | refine W_tail (a := .ret) ?_ | refine W_tail (a := .exit _) ?_ | refine W_tail (a := .block _ _) ?_ | refine QB_normal ?_ | refine QB_exit ?_ | refine QB_ret ?_ | refine QB_out (by decide) ?_ | refine QL_next ?_ | refine QL_exit ?_ | refine QL_ret ?_ | refine QL_out (by decide) ?_ | (show Fin _ _ .ret _; exact Fin_ret (by first | (simp; done) | (simp; with_reducible rfl))) | (show Fin _ _ .normal _; exact Fin_end (by first | (simp; done) | (simp; with_reducible rfl))))
      refine ih' _ ?_ ?_ ?_ ?_
      · simp; omega
      · exact hwl
      · simp; omega
      · simp

theorem N_some : F T 46 [.nilP, .int .u64 6, .int .i64 9] [] = some (.own 0 0 2, [⟨3, 1, false, enc (eInt .i64) [1, 2], 0⟩]) := by
  have v1 : F T 111 [.int .u64 6, .int .i64 9, .fn (.func 50) [.nilP] []] [] = some (.own 0 0 2, [⟨3, 1, false, enc (eInt .i64) [1, 2], 0⟩]) := by
    refine F_W T111 ?_
    simp only [c111, c111_b, Lift.start]
    repeat (first | refine W_assoc ?_ | (show W _ (.seq (.region _ _) _) _ _; refine W_reg (by simp; with_reducible rfl) ?_) | (show R _ _ _ (_ :: _) _ _ _ _; refine R_op (by simp (maxSteps := 2000000); with_reducible rfl) ?_) | (show R _ _ _ [] _ _ _ _; refine R_nil (by simp; with_reducible rfl) ?_) | (show W _ (.seq (.cond _ _ _) _) _ _; first | refine W_ct (by first | (simp; done) | fail) ?_ | refine W_cf (by first | (simp; done) | fail) ?_) | refine W_skip ?_ | refine W_bl (c := .seq _ _) ?_ | refine W_bl (c := .region _ _) ?_ | refine W_bl (c := .cond _ _ _) ?_ | refine W_bl (c := .block _ _) ?_ | refine W_rt ?_ | refine W_ex ?_ | refine W_end ?_ | refine W_tail (a := .region _ _) ?_ | refine W_tail (a := .cond _ _ _) ?_ | refine W_tail (a := .ret) ?_ | refine W_tail (a := .exit _) ?_ | refine W_tail (a := .block _ _) ?_ | refine QB_normal ?_ | refine QB_exit ?_ | refine QB_ret ?_ | refine QB_out (by decide) ?_ | refine QL_next ?_ | refine QL_exit ?_ | refine QL_ret ?_ | refine QL_out (by decide) ?_ | (show Fin _ _ .ret _; exact Fin_ret (by first | (simp; done) | (simp; with_reducible rfl))) | (show Fin _ _ .normal _; exact Fin_end (by first | (simp; done) | (simp; with_reducible rfl))))
    have hL := nsome_loop 9 9 6 []
    rw [show (sel 9 [] 6) = ([1, 2], []) by decide] at hL
    refine hL _ ?_ ?_ ?_ ?_
    · simp
    · omega
    · rw [show ((6 : Nat) : Int) = 6 from rfl, lst6]; simp
    · simp; try rfl
  refine F_W T46 ?_
  simp only [c46, c46_b, Lift.start]
  repeat (first | refine W_assoc ?_ | (show W _ (.seq (.region _ _) _) _ _; refine W_reg (by simp; with_reducible rfl) ?_) | (show R _ _ _ (_ :: _) _ _ _ _; refine R_op (by simp (maxSteps := 2000000) [v1]; with_reducible rfl) ?_) | (show R _ _ _ [] _ _ _ _; refine R_nil (by simp; with_reducible rfl) ?_) | (show W _ (.seq (.cond _ _ _) _) _ _; first | refine W_ct (by first | (simp [v1]; done) | fail) ?_ | refine W_cf (by first | (simp [v1]; done) | fail) ?_) | refine W_skip ?_ | refine W_bl (c := .seq _ _) ?_ | refine W_bl (c := .region _ _) ?_ | refine W_bl (c := .cond _ _ _) ?_ | refine W_bl (c := .block _ _) ?_ | refine W_rt ?_ | refine W_ex ?_ | refine W_end ?_ | refine W_tail (a := .region _ _) ?_ | refine W_tail (a := .cond _ _ _) ?_ | refine W_tail (a := .ret) ?_ | refine W_tail (a := .exit _) ?_ | refine W_tail (a := .block _ _) ?_ | refine QB_normal ?_ | refine QB_exit ?_ | refine QB_ret ?_ | refine QB_out (by decide) ?_ | refine QL_next ?_ | refine QL_exit ?_ | refine QL_ret ?_ | refine QL_out (by decide) ?_ | (show Fin _ _ .ret _; exact Fin_ret (by first | (simp [c46]; done) | (simp [c46]; with_reducible rfl))) | (show Fin _ _ .normal _; exact Fin_end (by first | (simp [c46]; done) | (simp [c46]; with_reducible rfl))))

/-- The tape, by what is left. -/
theorem T_left (r : List Int) (lo : Nat) (L : List Int) (h : r.drop lo = L) (h1 : lo ≤ r.length) (h2 : r.length ≤ 100000) : F T 55 [.ref 0 0 0] [tv lo L.length, tr r] = some (.own 2 0 L.length, [tv lo L.length, tr r, tr L]) := by
  have hm : r.length - lo = L.length := by rw [← h]; simp
  have := F_left r lo h1 h2
  rw [h, hm] at this
  exact this

theorem T_same (L : List Int) (h : L.length ≤ 100000) : F T 54 [.ro 1 (enc (eInt .u64) L) false, .ro 1 (enc (eInt .u64) L) false] [] = some (.bool true, []) := by
  have := F_R07_Same L L (by omega) (by omega)
  simpa using this

theorem T_next (r : List Int) (lo : Nat) (y : Int) (l : List Int) (h : r.drop lo = y :: l) : F T 48 [.ref 0 0 0] [tv lo (l.length + 1), tr r] = some (.int .u64 y, [tv (lo + 1) l.length, tr r]) ∧ r.drop (lo + 1) = l ∧ lo + 1 ≤ r.length := by
  have hlen := congrArg List.length h
  simp at hlen
  have h1 : lo < r.length := by omega
  have hy : r[lo] = y := by
    rw [List.drop_eq_getElem_cons h1] at h
    injection h
  have := F_next r lo l.length (by omega)
  rw [hy] at this
  refine ⟨this, ?_, by omega⟩
  rw [List.drop_eq_getElem_cons h1] at h
  injection h

theorem T_below (r : List Int) (hu : U r) (lo : Nat) (y : Int) (l : List Int) (h : r.drop lo = y :: l) (n : Int) (h1 : 1 ≤ n) (h2 : n ≤ 9223372036854775807) : F T 50 [.ref 0 0 0, .int .i64 n] [tv lo (l.length + 1), tr r] = some (.int .i64 (bl (y :: l) n), [tv (lo + 1) l.length, tr r]) := by
  have hlen := congrArg List.length h
  simp at hlen
  have := F_belowN r hu lo (by omega) n h1 h2
  rw [h, show adv r lo 1 = lo + 1 by unfold adv; omega, show r.length - lo = l.length + 1 by omega, show r.length - (lo + 1) = l.length by omega] at this
  exact this

theorem T_below0 (r : List Int) (hu : U r) (lo : Nat) (h : r.drop lo = []) (hlo : lo ≤ r.length) (n : Int) (h1 : 1 ≤ n) (h2 : n ≤ 9223372036854775807) : F T 50 [.ref 0 0 0, .int .i64 n] [tv lo 0, tr r] = some (.int .i64 (bl [] n), [tv lo 0, tr r]) := by
  have hlen := congrArg List.length h
  simp at hlen
  have := F_belowN r hu lo hlo n h1 h2
  rw [h, show adv r lo 1 = lo by unfold adv; omega, show r.length - lo = 0 by omega] at this
  exact this

theorem T_some (r : List Int) (hu : U r) (lo : Nat) (L : List Int) (h : r.drop lo = L) (hlo : lo ≤ r.length) (x : Nat) (hx : x < 18446744073709551616) (k : Int) : ∃ lo', r.drop lo' = (sel k.toNat L x).2 ∧ lo' ≤ r.length ∧
    F T 46 [.ref 0 0 0, .int .u64 x, .int .i64 k] [tv lo L.length, tr r] = some (.own 2 0 (sel k.toNat L x).1.length, [tv lo' (sel k.toNat L x).2.length, tr r, ⟨3, 1, false, enc (eInt .i64) (sel k.toNat L x).1, 0⟩]) := by
  have hm : r.length - lo = L.length := by rw [← h]; simp
  have hd : r.drop (adv r lo (min k.toNat (lst (x : Int) 64).length)) = (sel k.toNat L x).2 := by rw [adv_drop, h, sel_rest _ _ _ hx]
  have hm2 : r.length - adv r lo (min k.toNat (lst (x : Int) 64).length) = (sel k.toNat L x).2.length := by rw [← hd]; simp
  refine ⟨_, hd, adv_le _ _ _, ?_⟩
  have := F_Some r hu lo hlo x hx k
  rw [h, hm, hm2] at this
  exact this

theorem T_add (r : List Int) (lo : Nat) (L : List Int) (h : r.drop lo = L) (h1 : lo ≤ r.length) (h2 : r.length ≤ 100000) (l : List Int) (hne : l ≠ []) (hl2 : l.length ≤ 100000) : F T 52 [.ref 0 0 0, .ro 1 (enc (eInt .u64) l) false] [tv lo L.length, tr r] = some (.tup [], [⟨157, 1, true, [[.own 2 0 (L ++ l).length]], 0⟩, tr r, tr (L ++ l)]) := by
  have hm : r.length - lo = L.length := by rw [← h]; simp
  have := F_add r lo h1 h2 l hne hl2
  rw [h, hm] at this
  exact this

theorem T_clone (r : List Int) (lo : Nat) (L : List Int) (h : r.drop lo = L) (h1 : lo ≤ r.length) (h2 : r.length ≤ 100000) : F T 53 [.ref 0 0 0] [tv lo L.length, tr r] = some (.ref 2 0 0, [tv lo L.length, tr r, ⟨157, 1, true, [[.own 3 0 L.length]], 0⟩, tr L]) := by
  have hm : r.length - lo = L.length := by rw [← h]; simp
  have := F_clone r lo h1 h2
  rw [h, hm] at this
  exact this

theorem sel_in : ∀ (m : Nat) (l : List Int) (x : Nat), x < 18446744073709551616 → (sel m l x).1.length ≤ 64 ∧ (sel m l x).2.length ≤ l.length
  | m, l, x, hx => by
    have h1 := sel_len m l x hx
    have h2 := sel_rest m l x hx
    have h3 := lst_len x 64
    refine ⟨by omega, ?_⟩
    rw [h2]; simp

def HeadA (asks : List P3) (i : Nat) (r : List Int) (lo : Nat) (L : List Int) : ASt := ⟨[.ro 1 (enc (eInt .u64) L) false, .ro 3 (enc e3 asks) false, .top, .top, .top, .ref 0 0 0, .int .i64 i, .top, .top, .top, .top, .top, .top, .top, .top, .top, .top, .top, .top, .top, .top, .top, .top, .top, .top, .top, .top, .top, .top, .top, .top, .top, .top, .top, .top, .top, .top, .top, .top, .top, .top, .top, .top, .top, .top, .top, .top, .top, .top, .top, .top, .top, .top, .top, .top, .top, .top, .top, .top, .top, .top, .top, .top, .top, .top, .top, .top, .top, .top, .top, .top, .top, .top, .top, .top, .top, .top, .top, .top, .top, .top, .top, .top, .top, .top, .top, .top, .top, .top, .top, .top, .top, .top, .top, .top, .top, .top, .top, .top, .top, .top, .top, .top, .top, .top, .top, .top, .top, .top, .top, .top, .top, .top, .top, .top, .top, .top, .top, .top, .top, .top, .top, .top, .top, .top, .top, .top, .top, .top, .top, .top, .top, .top, .top, .top, .top, .top, .top, .top, .top, .top, .top, .top, .top, .top, .top, .top, .top, .top, .top, .top, .top, .top, .top, .top, .top, .top, .top], [(0, tv lo L.length), (1, tr r)], 2, 0⟩
def HeadB (asks : List P3) (i : Nat) (r : List Int) (lo : Nat) (L : List Int) : ASt := ⟨[.own 0 0 L.length, .ro 3 (enc e3 asks) false, .top, .top, .top, .ref 1 0 0, .int .i64 i, .top, .top, .top, .top, .top, .top, .top, .top, .top, .top, .top, .top, .top, .top, .top, .top, .top, .top, .top, .top, .top, .top, .top, .top, .top, .top, .top, .top, .top, .top, .top, .top, .top, .top, .top, .top, .top, .top, .top, .top, .top, .top, .top, .top, .top, .top, .top, .top, .top, .top, .top, .top, .top, .top, .top, .top, .top, .top, .top, .top, .top, .top, .top, .top, .top, .top, .top, .top, .top, .top, .top, .top, .top, .top, .top, .top, .top, .top, .top, .top, .top, .top, .top, .top, .top, .top, .top, .top, .top, .top, .top, .top, .top, .top, .top, .top, .top, .top, .top, .top, .top, .top, .top, .top, .top, .top, .top, .top, .top, .top, .top, .top, .top, .top, .top, .top, .top, .top, .top, .top, .top, .top, .top, .top, .top, .top, .top, .top, .top, .top, .top, .top, .top, .top, .top, .top, .top, .top, .top, .top, .top, .top, .top, .top, .top, .top, .top, .top, .top, .top, .top], [(0, tr L), (1, ⟨157, 1, true, [[.own 2 lo L.length]], 0⟩), (2, tr r)], 3, 0⟩

theorem plays_end (asks : List P3) (r : List Int) (lo : Nat) (L : List Int) (st : ASt) (hc : canon [0, 1, 5, 6] st = HeadA asks asks.length r lo L ∨ canon [0, 1, 5, 6] st = HeadB asks asks.length r lo L) : W T c9_k0 st (Lift.Fin c9 (.bool true, [])) := by
  have g := N_add [5]
  have g1 := N_next
  have g2 := N_below
  have g3 := N_some
  have g4 := N_left
  have g5 := N_clone
  have g6 := N_rsome
  have g7 := V_same12
  have g8 := F_R06_Same [1, 2] [1, 2] (by simp) (by simp)
  simp only [decide_true] at g8
  unfold c9_k0
  rcases hc with hc | hc
  · unfold HeadA at hc
    refine W_round hc ?_
    unfold c9_l0
    repeat (first | refine W_assoc ?_ | (show W _ (.seq (.region _ _) _) _ _; refine W_reg (by simp; with_reducible rfl) ?_) | (show R _ _ _ (_ :: _) _ _ _ _; refine R_op (by simp (maxSteps := 2000000) [g, g1, g2, g3, g4, g5, g6, g7, g8, V_works07]; with_reducible rfl) ?_) | (show R _ _ _ [] _ _ _ _; refine R_nil (by simp; with_reducible rfl) ?_) | (show W _ (.seq (.cond _ _ _) _) _ _; first | refine W_ct (by first | (simp [g, g1, g2, g3, g4, g5, g6, g7, g8, V_works07]; done) | fail) ?_ | refine W_cf (by first | (simp [g, g1, g2, g3, g4, g5, g6, g7, g8, V_works07]; done) | fail) ?_) | refine W_skip ?_ | refine W_bl (c := .seq _ _) ?_ | refine W_bl (c := .region _ _) ?_ | refine W_bl (c := .cond _ _ _) ?_ | refine W_bl (c := .block _ _) ?_ | refine W_rt ?_ | refine W_ex ?_ | refine W_end ?_ | refine W_tail (a := .region _ _) ?_ | refine W_tail (a := .cond _ _ _) ?_ | refine W_tail (a := .ret) ?_ | refine W_tail (a := .exit _) ?_ | refine W_tail (a := .block _ _) ?_ | refine QB_normal ?_ | refine QB_exit ?_ | refine QB_ret ?_ | refine QB_out (by decide) ?_ | refine QL_next ?_ | refine QL_exit ?_ | refine QL_ret ?_ | refine QL_out (by decide) ?_ | (show Fin _ _ .ret _; exact Fin_ret (by first | (simp [c9]; done) | (simp [c9]; with_reducible rfl))) | (show Fin _ _ .normal _; exact Fin_end (by first | (simp [c9]; done) | (simp [c9]; with_reducible rfl))))
  · unfold HeadB at hc
    refine W_round hc ?_
    unfold c9_l0
    repeat (first | refine W_assoc ?_ | (show W _ (.seq (.region _ _) _) _ _; refine W_reg (by simp; with_reducible rfl) ?_) | (show R _ _ _ (_ :: _) _ _ _ _; refine R_op (by simp (maxSteps := 2000000) [g, g1, g2, g3, g4, g5, g6, g7, g8, V_works07]; with_reducible rfl) ?_) | (show R _ _ _ [] _ _ _ _; refine R_nil (by simp; with_reducible rfl) ?_) | (show W _ (.seq (.cond _ _ _) _) _ _; first | refine W_ct (by first | (simp [g, g1, g2, g3, g4, g5, g6, g7, g8, V_works07]; done) | fail) ?_ | refine W_cf (by first | (simp [g, g1, g2, g3, g4, g5, g6, g7, g8, V_works07]; done) | fail) ?_) | refine W_skip ?_ | refine W_bl (c := .seq _ _) ?_ | refine W_bl (c := .region _ _) ?_ | refine W_bl (c := .cond _ _ _) ?_ | refine W_bl (c := .block _ _) ?_ | refine W_rt ?_ | refine W_ex ?_ | refine W_end ?_ | refine W_tail (a := .region _ _) ?_ | refine W_tail (a := .cond _ _ _) ?_ | refine W_tail (a := .ret) ?_ | refine W_tail (a := .exit _) ?_ | refine W_tail (a := .block _ _) ?_ | refine QB_normal ?_ | refine QB_exit ?_ | refine QB_ret ?_ | refine QB_out (by decide) ?_ | refine QL_next ?_ | refine QL_exit ?_ | refine QL_ret ?_ | refine QL_out (by decide) ?_ | (show Fin _ _ .ret _; exact Fin_ret (by first | (simp [c9]; done) | (simp [c9]; with_reducible rfl))) | (show Fin _ _ .normal _; exact Fin_end (by first | (simp [c9]; done) | (simp [c9]; with_reducible rfl))))

/-- A round. -/
def Next (asks : List P3) (i : Nat) (r : List Int) (L : List Int) : Prop := ∀ (r' : List Int) (lo' : Nat) (L' : List Int) (st : ASt), r'.drop lo' = L' → lo' ≤ r'.length → U r' → L'.length ≤ L.length + 10 → r'.length ≤ r.length + 10 →
  (canon [0, 1, 5, 6] st = HeadA asks i r' lo' L' ∨ (L' ≠ [] ∧ canon [0, 1, 5, 6] st = HeadB asks i r' lo' L')) → W T c9_k0 st (Lift.Fin c9 (.bool true, []))

section
variable (asks : List P3) (ha : asks.length ≤ 40) (i : Nat) (hlt : i < asks.length) (hok : okA asks[i]) (r : List Int) (lo : Nat) (L : List Int) (hL : r.drop lo = L) (hlo : lo ≤ r.length) (hu : U r) (hl1 : L.length ≤ 1000) (hl2 : r.length ≤ 1000) (hn : Next asks (i + 1) r L) (st : ASt)
include ha hlt hok hL hlo hu hl1 hl2 hn

theorem d0A0 (d0 : asks[i].1 = 0) (hnil : L = []) (hc : canon [0, 1, 5, 6] st = HeadA asks i r lo L) : W T c9_k0 st (Lift.Fin c9 (.bool true, [])) := by
  have hw := wrapS i _ hlt (by omega)
  have hlt' : (i : Int) < asks.length := by omega
  unfold HeadA at hc
  subst hnil
  simp only [enc_nil, List.length_nil] at hc
  have v1 := FV_of F_R07Next0
  simp at v1
  have v2 := F_next0 r lo
  have f1 := T_left r lo [] hL hlo (by first | omega | (simp; done) | (simp; omega))
  have f2 := T_same [] (by first | omega | (simp; done) | (simp; omega))
  have f3 := FV_of f2
  try simp at f1 f2 f3

  unfold c9_k0
  refine W_round hc ?_
  unfold c9_l0
  repeat (first | refine W_assoc ?_ | (show W _ (.seq (.region _ _) _) _ _; refine W_reg (by simp; with_reducible rfl) ?_) | (show R _ _ _ (_ :: _) _ _ _ _; refine R_op (by simp (maxSteps := 2000000) [hlt, hlt', hw, d0, v1, v2, f1, f2, f3]; with_reducible rfl) ?_) | (show R _ _ _ [] _ _ _ _; refine R_nil (by simp; with_reducible rfl) ?_) | (show W _ (.seq (.cond _ _ _) _) _ _; first | refine W_ct (by first | (simp [hlt, hlt', hw, d0, v1, v2, f1, f2, f3]; done) | fail) ?_ | refine W_cf (by first | (simp [hlt, hlt', hw, d0, v1, v2, f1, f2, f3]; done) | fail) ?_) | refine W_skip ?_ | refine W_bl (c := .seq _ _) ?_ | refine W_bl (c := .region _ _) ?_ | refine W_bl (c := .cond _ _ _) ?_ | refine W_bl (c := .block _ _) ?_ | refine W_rt ?_ | refine W_ex ?_ | refine W_end ?_ | refine W_tail (a := .region _ _) ?_ | refine W_tail (a := .cond _ _ _) ?_ | refine W_tail (a := .ret) ?_ | refine W_tail (a := .exit _) ?_ | refine W_tail (a := .block _ _) ?_ | refine QB_normal ?_ | refine QB_exit ?_ | refine QB_ret ?_ | refine QB_out (by decide) ?_ | refine QL_next ?_ | refine QL_exit ?_ | refine QL_ret ?_ | refine QL_out (by decide) ?_ | (show Fin _ _ .ret _; exact Fin_ret (by first | (simp; done) | (simp; with_reducible rfl))) | (show Fin _ _ .normal _; exact Fin_end (by first | (simp; done) | (simp; with_reducible rfl))))
  refine hn (r) (lo) ([]) _ ?_ ?_ ?_ ?_ ?_ ?_
  · exact hL
  · exact hlo
  · exact hu
  · first | omega | simp
  · omega
  · unfold HeadA; exact .inl (by simp; try rfl)

theorem d0A1 (d0 : asks[i].1 = 0) (y : Int) (l : List Int) (hcons : L = y :: l) (hc : canon [0, 1, 5, 6] st = HeadA asks i r lo L) : W T c9_k0 st (Lift.Fin c9 (.bool true, [])) := by
  have hw := wrapS i _ hlt (by omega)
  have hlt' : (i : Int) < asks.length := by omega
  unfold HeadA at hc
  subst hcons
  simp at hl1
  simp only [List.length_cons] at hc
  have v1 := FV_of (F_R07Next1 y l (by omega))
  try simp at v1
  obtain ⟨v2, hL2, hlo2⟩ := T_next r lo y l hL
  have f1 := T_left r (lo + 1) l hL2 hlo2 (by first | omega | (simp; done) | (simp; omega))
  have f2 := T_same l (by first | omega | (simp; done) | (simp; omega))
  have f3 := FV_of f2
  try simp at f1 f2 f3

  unfold c9_k0
  refine W_round hc ?_
  unfold c9_l0
  repeat (first | refine W_assoc ?_ | (show W _ (.seq (.region _ _) _) _ _; refine W_reg (by simp; with_reducible rfl) ?_) | (show R _ _ _ (_ :: _) _ _ _ _; refine R_op (by simp (maxSteps := 2000000) [hlt, hlt', hw, d0, v1, v2, f1, f2, f3]; with_reducible rfl) ?_) | (show R _ _ _ [] _ _ _ _; refine R_nil (by simp; with_reducible rfl) ?_) | (show W _ (.seq (.cond _ _ _) _) _ _; first | refine W_ct (by first | (simp [hlt, hlt', hw, d0, v1, v2, f1, f2, f3]; done) | fail) ?_ | refine W_cf (by first | (simp [hlt, hlt', hw, d0, v1, v2, f1, f2, f3]; done) | fail) ?_) | refine W_skip ?_ | refine W_bl (c := .seq _ _) ?_ | refine W_bl (c := .region _ _) ?_ | refine W_bl (c := .cond _ _ _) ?_ | refine W_bl (c := .block _ _) ?_ | refine W_rt ?_ | refine W_ex ?_ | refine W_end ?_ | refine W_tail (a := .region _ _) ?_ | refine W_tail (a := .cond _ _ _) ?_ | refine W_tail (a := .ret) ?_ | refine W_tail (a := .exit _) ?_ | refine W_tail (a := .block _ _) ?_ | refine QB_normal ?_ | refine QB_exit ?_ | refine QB_ret ?_ | refine QB_out (by decide) ?_ | refine QL_next ?_ | refine QL_exit ?_ | refine QL_ret ?_ | refine QL_out (by decide) ?_ | (show Fin _ _ .ret _; exact Fin_ret (by first | (simp; done) | (simp; with_reducible rfl))) | (show Fin _ _ .normal _; exact Fin_end (by first | (simp; done) | (simp; with_reducible rfl))))
  refine hn (r) (lo + 1) (l) _ ?_ ?_ ?_ ?_ ?_ ?_
  · exact hL2
  · exact hlo2
  · exact hu
  · first | omega | (simp; done) | (simp; omega)
  · omega
  · unfold HeadA; exact .inl (by simp; try rfl)

theorem d0B0 (d0 : asks[i].1 = 0) (y : Int) (l : List Int) (hcons : L = y :: l) (hl : l = []) (hc : canon [0, 1, 5, 6] st = HeadB asks i r lo L) : W T c9_k0 st (Lift.Fin c9 (.bool true, [])) := by
  have hw := wrapS i _ hlt (by omega)
  have hlt' : (i : Int) < asks.length := by omega
  unfold HeadB at hc
  subst hcons
  simp at hl1
  simp only [List.length_cons] at hc
  have v1 := F_R07Next1 y l (by omega)
  obtain ⟨v2, hL2, hlo2⟩ := T_next r lo y l hL
  have f1 := T_left r (lo + 1) l hL2 hlo2 (by first | omega | (simp; done) | (simp; omega))
  have f2 := T_same l (by first | omega | (simp; done) | (simp; omega))
  have f3 := FV_of f2
  try simp at f1 f2 f3
  subst hl
  simp only [List.length_nil, enc_nil, Nat.zero_add] at *

  unfold c9_k0
  refine W_round hc ?_
  unfold c9_l0
  repeat (first | refine W_assoc ?_ | (show W _ (.seq (.region _ _) _) _ _; refine W_reg (by simp; with_reducible rfl) ?_) | (show R _ _ _ (_ :: _) _ _ _ _; refine R_op (by simp (maxSteps := 2000000) [hlt, hlt', hw, d0, v1, v2, f1, f2, f3]; with_reducible rfl) ?_) | (show R _ _ _ [] _ _ _ _; refine R_nil (by simp; with_reducible rfl) ?_) | (show W _ (.seq (.cond _ _ _) _) _ _; first | refine W_ct (by first | (simp [hlt, hlt', hw, d0, v1, v2, f1, f2, f3]; done) | fail) ?_ | refine W_cf (by first | (simp [hlt, hlt', hw, d0, v1, v2, f1, f2, f3]; done) | fail) ?_) | refine W_skip ?_ | refine W_bl (c := .seq _ _) ?_ | refine W_bl (c := .region _ _) ?_ | refine W_bl (c := .cond _ _ _) ?_ | refine W_bl (c := .block _ _) ?_ | refine W_rt ?_ | refine W_ex ?_ | refine W_end ?_ | refine W_tail (a := .region _ _) ?_ | refine W_tail (a := .cond _ _ _) ?_ | refine W_tail (a := .ret) ?_ | refine W_tail (a := .exit _) ?_ | refine W_tail (a := .block _ _) ?_ | refine QB_normal ?_ | refine QB_exit ?_ | refine QB_ret ?_ | refine QB_out (by decide) ?_ | refine QL_next ?_ | refine QL_exit ?_ | refine QL_ret ?_ | refine QL_out (by decide) ?_ | (show Fin _ _ .ret _; exact Fin_ret (by first | (simp; done) | (simp; with_reducible rfl))) | (show Fin _ _ .normal _; exact Fin_end (by first | (simp; done) | (simp; with_reducible rfl))))
  refine hn (r) (lo + 1) ([]) _ ?_ ?_ ?_ ?_ ?_ ?_
  · exact hL2
  · exact hlo2
  · exact hu
  · first | omega | (simp; done) | (simp; omega)
  · omega
  · unfold HeadA; exact .inl (by simp; try rfl)

theorem d0B1 (d0 : asks[i].1 = 0) (y : Int) (l : List Int) (hcons : L = y :: l) (hl : l ≠ []) (hc : canon [0, 1, 5, 6] st = HeadB asks i r lo L) : W T c9_k0 st (Lift.Fin c9 (.bool true, [])) := by
  have hw := wrapS i _ hlt (by omega)
  have hlt' : (i : Int) < asks.length := by omega
  unfold HeadB at hc
  subst hcons
  simp at hl1
  simp only [List.length_cons] at hc
  have v1 := F_R07Next1 y l (by omega)
  obtain ⟨v2, hL2, hlo2⟩ := T_next r lo y l hL
  have f1 := T_left r (lo + 1) l hL2 hlo2 (by first | omega | (simp; done) | (simp; omega))
  have f2 := T_same l (by first | omega | (simp; done) | (simp; omega))
  have f3 := FV_of f2
  try simp at f1 f2 f3

  unfold c9_k0
  refine W_round hc ?_
  unfold c9_l0
  repeat (first | refine W_assoc ?_ | (show W _ (.seq (.region _ _) _) _ _; refine W_reg (by simp; with_reducible rfl) ?_) | (show R _ _ _ (_ :: _) _ _ _ _; refine R_op (by simp (maxSteps := 2000000) [hlt, hlt', hw, d0, v1, v2, f1, f2, f3, hl]; with_reducible rfl) ?_) | (show R _ _ _ [] _ _ _ _; refine R_nil (by simp; with_reducible rfl) ?_) | (show W _ (.seq (.cond _ _ _) _) _ _; first | refine W_ct (by first | (simp [hlt, hlt', hw, d0, v1, v2, f1, f2, f3, hl]; done) | fail) ?_ | refine W_cf (by first | (simp [hlt, hlt', hw, d0, v1, v2, f1, f2, f3, hl]; done) | fail) ?_) | refine W_skip ?_ | refine W_bl (c := .seq _ _) ?_ | refine W_bl (c := .region _ _) ?_ | refine W_bl (c := .cond _ _ _) ?_ | refine W_bl (c := .block _ _) ?_ | refine W_rt ?_ | refine W_ex ?_ | refine W_end ?_ | refine W_tail (a := .region _ _) ?_ | refine W_tail (a := .cond _ _ _) ?_ | refine W_tail (a := .ret) ?_ | refine W_tail (a := .exit _) ?_ | refine W_tail (a := .block _ _) ?_ | refine QB_normal ?_ | refine QB_exit ?_ | refine QB_ret ?_ | refine QB_out (by decide) ?_ | refine QL_next ?_ | refine QL_exit ?_ | refine QL_ret ?_ | refine QL_out (by decide) ?_ | (show Fin _ _ .ret _; exact Fin_ret (by first | (simp; done) | (simp; with_reducible rfl))) | (show Fin _ _ .normal _; exact Fin_end (by first | (simp; done) | (simp; with_reducible rfl))))
  refine hn (r) (lo + 1) (l) _ ?_ ?_ ?_ ?_ ?_ ?_
  · exact hL2
  · exact hlo2
  · exact hu
  · first | omega | (simp; done) | (simp; omega)
  · omega
  · unfold HeadA; exact .inl (by simp; try rfl)

theorem d1Az (d0 : asks[i].1 = 1) (h1 : asks[i].2.1 < 1) (hc : canon [0, 1, 5, 6] st = HeadA asks i r lo L) : W T c9_k0 st (Lift.Fin c9 (.bool true, [])) := by
  have hw := wrapS i _ hlt (by omega)
  have hlt' : (i : Int) < asks.length := by omega
  unfold HeadA at hc
  have v1 := FV_of (F_R07Below0 L asks[i].2.1 h1)
  try simp at v1
  have v2 := F_below1 r lo L.length asks[i].2.1 h1
  have f1 := T_left r lo L hL hlo (by first | omega | (simp; done) | (simp; omega))
  have f2 := T_same L (by first | omega | (simp; done) | (simp; omega))
  have f3 := FV_of f2
  try simp at f1 f2 f3

  unfold c9_k0
  refine W_round hc ?_
  unfold c9_l0
  repeat (first | refine W_assoc ?_ | (show W _ (.seq (.region _ _) _) _ _; refine W_reg (by simp; with_reducible rfl) ?_) | (show R _ _ _ (_ :: _) _ _ _ _; refine R_op (by simp (maxSteps := 2000000) [hlt, hlt', hw, d0, v1, v2, f1, f2, f3]; with_reducible rfl) ?_) | (show R _ _ _ [] _ _ _ _; refine R_nil (by simp; with_reducible rfl) ?_) | (show W _ (.seq (.cond _ _ _) _) _ _; first | refine W_ct (by first | (simp [hlt, hlt', hw, d0, v1, v2, f1, f2, f3]; done) | fail) ?_ | refine W_cf (by first | (simp [hlt, hlt', hw, d0, v1, v2, f1, f2, f3]; done) | fail) ?_) | refine W_skip ?_ | refine W_bl (c := .seq _ _) ?_ | refine W_bl (c := .region _ _) ?_ | refine W_bl (c := .cond _ _ _) ?_ | refine W_bl (c := .block _ _) ?_ | refine W_rt ?_ | refine W_ex ?_ | refine W_end ?_ | refine W_tail (a := .region _ _) ?_ | refine W_tail (a := .cond _ _ _) ?_ | refine W_tail (a := .ret) ?_ | refine W_tail (a := .exit _) ?_ | refine W_tail (a := .block _ _) ?_ | refine QB_normal ?_ | refine QB_exit ?_ | refine QB_ret ?_ | refine QB_out (by decide) ?_ | refine QL_next ?_ | refine QL_exit ?_ | refine QL_ret ?_ | refine QL_out (by decide) ?_ | (show Fin _ _ .ret _; exact Fin_ret (by first | (simp; done) | (simp; with_reducible rfl))) | (show Fin _ _ .normal _; exact Fin_end (by first | (simp; done) | (simp; with_reducible rfl))))
  refine hn (r) (lo) (L) _ ?_ ?_ ?_ ?_ ?_ ?_
  · exact hL
  · exact hlo
  · exact hu
  · omega
  · omega
  · unfold HeadA; exact .inl (by simp; try rfl)

theorem d1Bz (d0 : asks[i].1 = 1) (h1 : asks[i].2.1 < 1) (hne : L ≠ []) (hc : canon [0, 1, 5, 6] st = HeadB asks i r lo L) : W T c9_k0 st (Lift.Fin c9 (.bool true, [])) := by
  have hw := wrapS i _ hlt (by omega)
  have hlt' : (i : Int) < asks.length := by omega
  unfold HeadB at hc
  have v1 := F_R07Below0 L asks[i].2.1 h1
  have v2 := F_below1 r lo L.length asks[i].2.1 h1
  have f1 := T_left r lo L hL hlo (by first | omega | (simp; done) | (simp; omega))
  have f2 := T_same L (by first | omega | (simp; done) | (simp; omega))
  have f3 := FV_of f2
  try simp at f1 f2 f3

  unfold c9_k0
  refine W_round hc ?_
  unfold c9_l0
  repeat (first | refine W_assoc ?_ | (show W _ (.seq (.region _ _) _) _ _; refine W_reg (by simp; with_reducible rfl) ?_) | (show R _ _ _ (_ :: _) _ _ _ _; refine R_op (by simp (maxSteps := 2000000) [hlt, hlt', hw, d0, v1, v2, f1, f2, f3, hne]; with_reducible rfl) ?_) | (show R _ _ _ [] _ _ _ _; refine R_nil (by simp; with_reducible rfl) ?_) | (show W _ (.seq (.cond _ _ _) _) _ _; first | refine W_ct (by first | (simp [hlt, hlt', hw, d0, v1, v2, f1, f2, f3, hne]; done) | fail) ?_ | refine W_cf (by first | (simp [hlt, hlt', hw, d0, v1, v2, f1, f2, f3, hne]; done) | fail) ?_) | refine W_skip ?_ | refine W_bl (c := .seq _ _) ?_ | refine W_bl (c := .region _ _) ?_ | refine W_bl (c := .cond _ _ _) ?_ | refine W_bl (c := .block _ _) ?_ | refine W_rt ?_ | refine W_ex ?_ | refine W_end ?_ | refine W_tail (a := .region _ _) ?_ | refine W_tail (a := .cond _ _ _) ?_ | refine W_tail (a := .ret) ?_ | refine W_tail (a := .exit _) ?_ | refine W_tail (a := .block _ _) ?_ | refine QB_normal ?_ | refine QB_exit ?_ | refine QB_ret ?_ | refine QB_out (by decide) ?_ | refine QL_next ?_ | refine QL_exit ?_ | refine QL_ret ?_ | refine QL_out (by decide) ?_ | (show Fin _ _ .ret _; exact Fin_ret (by first | (simp; done) | (simp; with_reducible rfl))) | (show Fin _ _ .normal _; exact Fin_end (by first | (simp; done) | (simp; with_reducible rfl))))
  refine hn (r) (lo) (L) _ ?_ ?_ ?_ ?_ ?_ ?_
  · exact hL
  · exact hlo
  · exact hu
  · omega
  · omega
  · unfold HeadA; exact .inl (by simp; try rfl)

theorem d1A0 (d0 : asks[i].1 = 1) (h1 : 1 ≤ asks[i].2.1) (hnil : L = []) (hc : canon [0, 1, 5, 6] st = HeadA asks i r lo L) : W T c9_k0 st (Lift.Fin c9 (.bool true, [])) := by
  have hw := wrapS i _ hlt (by omega)
  have hlt' : (i : Int) < asks.length := by omega
  unfold HeadA at hc
  subst hnil
  simp only [enc_nil, List.length_nil] at hc
  have v1 := FV_of (F_R07Below1 [] (by simp) (fun y hy => by simp at hy) asks[i].2.1 h1 hok.1.2)
  try simp at v1
  have v2 := T_below0 r hu lo hL hlo asks[i].2.1 h1 hok.1.2
  have f1 := T_left r lo [] hL hlo (by first | omega | (simp; done) | (simp; omega))
  have f2 := T_same [] (by first | omega | (simp; done) | (simp; omega))
  have f3 := FV_of f2
  try simp at f1 f2 f3

  unfold c9_k0
  refine W_round hc ?_
  unfold c9_l0
  repeat (first | refine W_assoc ?_ | (show W _ (.seq (.region _ _) _) _ _; refine W_reg (by simp; with_reducible rfl) ?_) | (show R _ _ _ (_ :: _) _ _ _ _; refine R_op (by simp (maxSteps := 2000000) [hlt, hlt', hw, d0, v1, v2, f1, f2, f3]; with_reducible rfl) ?_) | (show R _ _ _ [] _ _ _ _; refine R_nil (by simp; with_reducible rfl) ?_) | (show W _ (.seq (.cond _ _ _) _) _ _; first | refine W_ct (by first | (simp [hlt, hlt', hw, d0, v1, v2, f1, f2, f3]; done) | fail) ?_ | refine W_cf (by first | (simp [hlt, hlt', hw, d0, v1, v2, f1, f2, f3]; done) | fail) ?_) | refine W_skip ?_ | refine W_bl (c := .seq _ _) ?_ | refine W_bl (c := .region _ _) ?_ | refine W_bl (c := .cond _ _ _) ?_ | refine W_bl (c := .block _ _) ?_ | refine W_rt ?_ | refine W_ex ?_ | refine W_end ?_ | refine W_tail (a := .region _ _) ?_ | refine W_tail (a := .cond _ _ _) ?_ | refine W_tail (a := .ret) ?_ | refine W_tail (a := .exit _) ?_ | refine W_tail (a := .block _ _) ?_ | refine QB_normal ?_ | refine QB_exit ?_ | refine QB_ret ?_ | refine QB_out (by decide) ?_ | refine QL_next ?_ | refine QL_exit ?_ | refine QL_ret ?_ | refine QL_out (by decide) ?_ | (show Fin _ _ .ret _; exact Fin_ret (by first | (simp; done) | (simp; with_reducible rfl))) | (show Fin _ _ .normal _; exact Fin_end (by first | (simp; done) | (simp; with_reducible rfl))))
  refine hn (r) (lo) ([]) _ ?_ ?_ ?_ ?_ ?_ ?_
  · exact hL
  · exact hlo
  · exact hu
  · first | omega | simp
  · omega
  · unfold HeadA; exact .inl (by simp; try rfl)

theorem d1A1 (d0 : asks[i].1 = 1) (h1 : 1 ≤ asks[i].2.1) (y : Int) (l : List Int) (hcons : L = y :: l) (hc : canon [0, 1, 5, 6] st = HeadA asks i r lo L) : W T c9_k0 st (Lift.Fin c9 (.bool true, [])) := by
  have hw := wrapS i _ hlt (by omega)
  have hlt' : (i : Int) < asks.length := by omega
  unfold HeadA at hc
  subst hcons
  simp at hl1
  simp only [List.length_cons] at hc
  have hul : U (y :: l) := by rw [← hL]; exact hu.drop lo
  have v1 := FV_of (F_R07Below1 (y :: l) (by simp; omega) hul asks[i].2.1 h1 hok.1.2)
  simp only [List.tail_cons] at v1
  obtain ⟨_, hL2, hlo2⟩ := T_next r lo y l hL
  have v2 := T_below r hu lo y l hL asks[i].2.1 h1 hok.1.2
  generalize bl (y :: l) asks[i].2.1 = q at *
  try simp at v1
  have f1 := T_left r (lo + 1) l hL2 hlo2 (by first | omega | (simp; done) | (simp; omega))
  have f2 := T_same l (by first | omega | (simp; done) | (simp; omega))
  have f3 := FV_of f2
  try simp at f1 f2 f3

  unfold c9_k0
  refine W_round hc ?_
  unfold c9_l0
  repeat (first | refine W_assoc ?_ | (show W _ (.seq (.region _ _) _) _ _; refine W_reg (by simp; with_reducible rfl) ?_) | (show R _ _ _ (_ :: _) _ _ _ _; refine R_op (by simp (maxSteps := 2000000) [hlt, hlt', hw, d0, v1, v2, f1, f2, f3]; with_reducible rfl) ?_) | (show R _ _ _ [] _ _ _ _; refine R_nil (by simp; with_reducible rfl) ?_) | (show W _ (.seq (.cond _ _ _) _) _ _; first | refine W_ct (by first | (simp [hlt, hlt', hw, d0, v1, v2, f1, f2, f3]; done) | fail) ?_ | refine W_cf (by first | (simp [hlt, hlt', hw, d0, v1, v2, f1, f2, f3]; done) | fail) ?_) | refine W_skip ?_ | refine W_bl (c := .seq _ _) ?_ | refine W_bl (c := .region _ _) ?_ | refine W_bl (c := .cond _ _ _) ?_ | refine W_bl (c := .block _ _) ?_ | refine W_rt ?_ | refine W_ex ?_ | refine W_end ?_ | refine W_tail (a := .region _ _) ?_ | refine W_tail (a := .cond _ _ _) ?_ | refine W_tail (a := .ret) ?_ | refine W_tail (a := .exit _) ?_ | refine W_tail (a := .block _ _) ?_ | refine QB_normal ?_ | refine QB_exit ?_ | refine QB_ret ?_ | refine QB_out (by decide) ?_ | refine QL_next ?_ | refine QL_exit ?_ | refine QL_ret ?_ | refine QL_out (by decide) ?_ | (show Fin _ _ .ret _; exact Fin_ret (by first | (simp; done) | (simp; with_reducible rfl))) | (show Fin _ _ .normal _; exact Fin_end (by first | (simp; done) | (simp; with_reducible rfl))))
  refine hn (r) (lo + 1) (l) _ ?_ ?_ ?_ ?_ ?_ ?_
  · exact hL2
  · exact hlo2
  · exact hu
  · first | omega | (simp; done) | (simp; omega)
  · omega
  · unfold HeadA; exact .inl (by simp; try rfl)

theorem d1B0 (d0 : asks[i].1 = 1) (h1 : 1 ≤ asks[i].2.1) (y : Int) (l : List Int) (hcons : L = y :: l) (hl : l = []) (hc : canon [0, 1, 5, 6] st = HeadB asks i r lo L) : W T c9_k0 st (Lift.Fin c9 (.bool true, [])) := by
  have hw := wrapS i _ hlt (by omega)
  have hlt' : (i : Int) < asks.length := by omega
  unfold HeadB at hc
  subst hcons
  simp at hl1
  simp only [List.length_cons] at hc
  have hul : U (y :: l) := by rw [← hL]; exact hu.drop lo
  have v1 := F_R07Below1 (y :: l) (by simp; omega) hul asks[i].2.1 h1 hok.1.2
  simp only [List.tail_cons] at v1
  obtain ⟨_, hL2, hlo2⟩ := T_next r lo y l hL
  have v2 := T_below r hu lo y l hL asks[i].2.1 h1 hok.1.2
  generalize bl (y :: l) asks[i].2.1 = q at *
  have f1 := T_left r (lo + 1) l hL2 hlo2 (by first | omega | (simp; done) | (simp; omega))
  have f2 := T_same l (by first | omega | (simp; done) | (simp; omega))
  have f3 := FV_of f2
  try simp at f1 f2 f3
  subst hl
  simp only [List.length_nil, enc_nil, Nat.zero_add] at *

  unfold c9_k0
  refine W_round hc ?_
  unfold c9_l0
  repeat (first | refine W_assoc ?_ | (show W _ (.seq (.region _ _) _) _ _; refine W_reg (by simp; with_reducible rfl) ?_) | (show R _ _ _ (_ :: _) _ _ _ _; refine R_op (by simp (maxSteps := 2000000) [hlt, hlt', hw, d0, v1, v2, f1, f2, f3]; with_reducible rfl) ?_) | (show R _ _ _ [] _ _ _ _; refine R_nil (by simp; with_reducible rfl) ?_) | (show W _ (.seq (.cond _ _ _) _) _ _; first | refine W_ct (by first | (simp [hlt, hlt', hw, d0, v1, v2, f1, f2, f3]; done) | fail) ?_ | refine W_cf (by first | (simp [hlt, hlt', hw, d0, v1, v2, f1, f2, f3]; done) | fail) ?_) | refine W_skip ?_ | refine W_bl (c := .seq _ _) ?_ | refine W_bl (c := .region _ _) ?_ | refine W_bl (c := .cond _ _ _) ?_ | refine W_bl (c := .block _ _) ?_ | refine W_rt ?_ | refine W_ex ?_ | refine W_end ?_ | refine W_tail (a := .region _ _) ?_ | refine W_tail (a := .cond _ _ _) ?_ | refine W_tail (a := .ret) ?_ | refine W_tail (a := .exit _) ?_ | refine W_tail (a := .block _ _) ?_ | refine QB_normal ?_ | refine QB_exit ?_ | refine QB_ret ?_ | refine QB_out (by decide) ?_ | refine QL_next ?_ | refine QL_exit ?_ | refine QL_ret ?_ | refine QL_out (by decide) ?_ | (show Fin _ _ .ret _; exact Fin_ret (by first | (simp; done) | (simp; with_reducible rfl))) | (show Fin _ _ .normal _; exact Fin_end (by first | (simp; done) | (simp; with_reducible rfl))))
  refine hn (r) (lo + 1) ([]) _ ?_ ?_ ?_ ?_ ?_ ?_
  · exact hL2
  · exact hlo2
  · exact hu
  · first | omega | (simp; done) | (simp; omega)
  · omega
  · unfold HeadA; exact .inl (by simp; try rfl)

theorem d1B1 (d0 : asks[i].1 = 1) (h1 : 1 ≤ asks[i].2.1) (y : Int) (l : List Int) (hcons : L = y :: l) (hl : l ≠ []) (hc : canon [0, 1, 5, 6] st = HeadB asks i r lo L) : W T c9_k0 st (Lift.Fin c9 (.bool true, [])) := by
  have hw := wrapS i _ hlt (by omega)
  have hlt' : (i : Int) < asks.length := by omega
  unfold HeadB at hc
  subst hcons
  simp at hl1
  simp only [List.length_cons] at hc
  have hul : U (y :: l) := by rw [← hL]; exact hu.drop lo
  have v1 := F_R07Below1 (y :: l) (by simp; omega) hul asks[i].2.1 h1 hok.1.2
  simp only [List.tail_cons] at v1
  obtain ⟨_, hL2, hlo2⟩ := T_next r lo y l hL
  have v2 := T_below r hu lo y l hL asks[i].2.1 h1 hok.1.2
  generalize bl (y :: l) asks[i].2.1 = q at *
  have f1 := T_left r (lo + 1) l hL2 hlo2 (by first | omega | (simp; done) | (simp; omega))
  have f2 := T_same l (by first | omega | (simp; done) | (simp; omega))
  have f3 := FV_of f2
  try simp at f1 f2 f3

  unfold c9_k0
  refine W_round hc ?_
  unfold c9_l0
  repeat (first | refine W_assoc ?_ | (show W _ (.seq (.region _ _) _) _ _; refine W_reg (by simp; with_reducible rfl) ?_) | (show R _ _ _ (_ :: _) _ _ _ _; refine R_op (by simp (maxSteps := 2000000) [hlt, hlt', hw, d0, v1, v2, f1, f2, f3, hl]; with_reducible rfl) ?_) | (show R _ _ _ [] _ _ _ _; refine R_nil (by simp; with_reducible rfl) ?_) | (show W _ (.seq (.cond _ _ _) _) _ _; first | refine W_ct (by first | (simp [hlt, hlt', hw, d0, v1, v2, f1, f2, f3, hl]; done) | fail) ?_ | refine W_cf (by first | (simp [hlt, hlt', hw, d0, v1, v2, f1, f2, f3, hl]; done) | fail) ?_) | refine W_skip ?_ | refine W_bl (c := .seq _ _) ?_ | refine W_bl (c := .region _ _) ?_ | refine W_bl (c := .cond _ _ _) ?_ | refine W_bl (c := .block _ _) ?_ | refine W_rt ?_ | refine W_ex ?_ | refine W_end ?_ | refine W_tail (a := .region _ _) ?_ | refine W_tail (a := .cond _ _ _) ?_ | refine W_tail (a := .ret) ?_ | refine W_tail (a := .exit _) ?_ | refine W_tail (a := .block _ _) ?_ | refine QB_normal ?_ | refine QB_exit ?_ | refine QB_ret ?_ | refine QB_out (by decide) ?_ | refine QL_next ?_ | refine QL_exit ?_ | refine QL_ret ?_ | refine QL_out (by decide) ?_ | (show Fin _ _ .ret _; exact Fin_ret (by first | (simp; done) | (simp; with_reducible rfl))) | (show Fin _ _ .normal _; exact Fin_end (by first | (simp; done) | (simp; with_reducible rfl))))
  refine hn (r) (lo + 1) (l) _ ?_ ?_ ?_ ?_ ?_ ?_
  · exact hL2
  · exact hlo2
  · exact hu
  · first | omega | (simp; done) | (simp; omega)
  · omega
  · unfold HeadA; exact .inl (by simp; try rfl)

theorem d2A (d0 : asks[i].1 = 2) (hc : canon [0, 1, 5, 6] st = HeadA asks i r lo L) : W T c9_k0 st (Lift.Fin c9 (.bool true, [])) := by
  have hw := wrapS i _ hlt (by omega)
  have hlt' : (i : Int) < asks.length := by omega
  unfold HeadA at hc
  have hul : U L := by rw [← hL]; exact hu.drop lo
  obtain ⟨x, hx⟩ := Int.eq_ofNat_of_zero_le hok.2.1
  have hx2 := hok.2.2
  obtain ⟨lo', hL2, hlo2, v2⟩ := T_some r hu lo L hL hlo x (by omega) asks[i].2.1
  have hsz := sel_in asks[i].2.1.toNat L x (by omega)
  have v4 := F_R06_Same (sel asks[i].2.1.toNat L x).1 (sel asks[i].2.1.toNat L x).1 (by omega) (by omega)
  simp only [decide_true] at v4
  have v1 := FV_of (F_R07Some L hul (by omega) x (by omega) asks[i].2.1)
  generalize (sel asks[i].2.1.toNat L x).1 = s1 at *
  generalize (sel asks[i].2.1.toNat L x).2 = s2 at *
  try simp at v1
  have f1 := T_left r lo' s2 hL2 hlo2 (by first | omega | (simp; done) | (simp; omega))
  have f2 := T_same s2 (by first | omega | (simp; done) | (simp; omega))
  have f3 := FV_of f2
  try simp at f1 f2 f3

  unfold c9_k0
  refine W_round hc ?_
  unfold c9_l0
  repeat (first | refine W_assoc ?_ | (show W _ (.seq (.region _ _) _) _ _; refine W_reg (by simp; with_reducible rfl) ?_) | (show R _ _ _ (_ :: _) _ _ _ _; refine R_op (by simp (maxSteps := 2000000) [hlt, hlt', hw, d0, hx, v1, v2, v4, f1, f2, f3]; with_reducible rfl) ?_) | (show R _ _ _ [] _ _ _ _; refine R_nil (by simp; with_reducible rfl) ?_) | (show W _ (.seq (.cond _ _ _) _) _ _; first | refine W_ct (by first | (simp [hlt, hlt', hw, d0, hx, v1, v2, v4, f1, f2, f3]; done) | fail) ?_ | refine W_cf (by first | (simp [hlt, hlt', hw, d0, hx, v1, v2, v4, f1, f2, f3]; done) | fail) ?_) | refine W_skip ?_ | refine W_bl (c := .seq _ _) ?_ | refine W_bl (c := .region _ _) ?_ | refine W_bl (c := .cond _ _ _) ?_ | refine W_bl (c := .block _ _) ?_ | refine W_rt ?_ | refine W_ex ?_ | refine W_end ?_ | refine W_tail (a := .region _ _) ?_ | refine W_tail (a := .cond _ _ _) ?_ | refine W_tail (a := .ret) ?_ | refine W_tail (a := .exit _) ?_ | refine W_tail (a := .block _ _) ?_ | refine QB_normal ?_ | refine QB_exit ?_ | refine QB_ret ?_ | refine QB_out (by decide) ?_ | refine QL_next ?_ | refine QL_exit ?_ | refine QL_ret ?_ | refine QL_out (by decide) ?_ | (show Fin _ _ .ret _; exact Fin_ret (by first | (simp; done) | (simp; with_reducible rfl))) | (show Fin _ _ .normal _; exact Fin_end (by first | (simp; done) | (simp; with_reducible rfl))))
  refine hn (r) (lo') (s2) _ ?_ ?_ ?_ ?_ ?_ ?_
  · exact hL2
  · exact hlo2
  · exact hu
  · omega
  · omega
  · unfold HeadA; exact .inl (by simp; try rfl)

theorem d2B0 (d0 : asks[i].1 = 2) (hl : (sel asks[i].2.1.toNat L asks[i].2.2.toNat).2 = []) (hc : canon [0, 1, 5, 6] st = HeadB asks i r lo L) : W T c9_k0 st (Lift.Fin c9 (.bool true, [])) := by
  have hw := wrapS i _ hlt (by omega)
  have hlt' : (i : Int) < asks.length := by omega
  unfold HeadB at hc
  have hul : U L := by rw [← hL]; exact hu.drop lo
  obtain ⟨x, hx⟩ := Int.eq_ofNat_of_zero_le hok.2.1
  have hx2 := hok.2.2
  obtain ⟨lo', hL2, hlo2, v2⟩ := T_some r hu lo L hL hlo x (by omega) asks[i].2.1
  have hsz := sel_in asks[i].2.1.toNat L x (by omega)
  have v4 := F_R06_Same (sel asks[i].2.1.toNat L x).1 (sel asks[i].2.1.toNat L x).1 (by omega) (by omega)
  simp only [decide_true] at v4
  have v1 := F_R07Some L hul (by omega) x (by omega) asks[i].2.1
  rw [hx, Int.toNat_natCast] at hl
  generalize (sel asks[i].2.1.toNat L x).1 = s1 at *
  generalize (sel asks[i].2.1.toNat L x).2 = s2 at *
  have f1 := T_left r lo' s2 hL2 hlo2 (by first | omega | (simp; done) | (simp; omega))
  have f2 := T_same s2 (by first | omega | (simp; done) | (simp; omega))
  have f3 := FV_of f2
  try simp at f1 f2 f3
  subst hl
  simp only [List.length_nil, enc_nil] at *

  unfold c9_k0
  refine W_round hc ?_
  unfold c9_l0
  repeat (first | refine W_assoc ?_ | (show W _ (.seq (.region _ _) _) _ _; refine W_reg (by simp; with_reducible rfl) ?_) | (show R _ _ _ (_ :: _) _ _ _ _; refine R_op (by simp (maxSteps := 2000000) [hlt, hlt', hw, d0, hx, v1, v2, v4, f1, f2, f3]; with_reducible rfl) ?_) | (show R _ _ _ [] _ _ _ _; refine R_nil (by simp; with_reducible rfl) ?_) | (show W _ (.seq (.cond _ _ _) _) _ _; first | refine W_ct (by first | (simp [hlt, hlt', hw, d0, hx, v1, v2, v4, f1, f2, f3]; done) | fail) ?_ | refine W_cf (by first | (simp [hlt, hlt', hw, d0, hx, v1, v2, v4, f1, f2, f3]; done) | fail) ?_) | refine W_skip ?_ | refine W_bl (c := .seq _ _) ?_ | refine W_bl (c := .region _ _) ?_ | refine W_bl (c := .cond _ _ _) ?_ | refine W_bl (c := .block _ _) ?_ | refine W_rt ?_ | refine W_ex ?_ | refine W_end ?_ | refine W_tail (a := .region _ _) ?_ | refine W_tail (a := .cond _ _ _) ?_ | refine W_tail (a := .ret) ?_ | refine W_tail (a := .exit _) ?_ | refine W_tail (a := .block _ _) ?_ | refine QB_normal ?_ | refine QB_exit ?_ | refine QB_ret ?_ | refine QB_out (by decide) ?_ | refine QL_next ?_ | refine QL_exit ?_ | refine QL_ret ?_ | refine QL_out (by decide) ?_ | (show Fin _ _ .ret _; exact Fin_ret (by first | (simp; done) | (simp; with_reducible rfl))) | (show Fin _ _ .normal _; exact Fin_end (by first | (simp; done) | (simp; with_reducible rfl))))
  refine hn (r) (lo') ([]) _ ?_ ?_ ?_ ?_ ?_ ?_
  · exact hL2
  · exact hlo2
  · exact hu
  · first | omega | (simp; done) | (simp; omega)
  · omega
  · unfold HeadA; exact .inl (by simp; try rfl)

theorem d2B1 (d0 : asks[i].1 = 2) (hl : (sel asks[i].2.1.toNat L asks[i].2.2.toNat).2 ≠ []) (hc : canon [0, 1, 5, 6] st = HeadB asks i r lo L) : W T c9_k0 st (Lift.Fin c9 (.bool true, [])) := by
  have hw := wrapS i _ hlt (by omega)
  have hlt' : (i : Int) < asks.length := by omega
  unfold HeadB at hc
  have hul : U L := by rw [← hL]; exact hu.drop lo
  obtain ⟨x, hx⟩ := Int.eq_ofNat_of_zero_le hok.2.1
  have hx2 := hok.2.2
  obtain ⟨lo', hL2, hlo2, v2⟩ := T_some r hu lo L hL hlo x (by omega) asks[i].2.1
  have hsz := sel_in asks[i].2.1.toNat L x (by omega)
  have v4 := F_R06_Same (sel asks[i].2.1.toNat L x).1 (sel asks[i].2.1.toNat L x).1 (by omega) (by omega)
  simp only [decide_true] at v4
  have v1 := F_R07Some L hul (by omega) x (by omega) asks[i].2.1
  rw [hx, Int.toNat_natCast] at hl
  generalize (sel asks[i].2.1.toNat L x).1 = s1 at *
  generalize (sel asks[i].2.1.toNat L x).2 = s2 at *
  have f1 := T_left r lo' s2 hL2 hlo2 (by first | omega | (simp; done) | (simp; omega))
  have f2 := T_same s2 (by first | omega | (simp; done) | (simp; omega))
  have f3 := FV_of f2
  try simp at f1 f2 f3

  unfold c9_k0
  refine W_round hc ?_
  unfold c9_l0
  repeat (first | refine W_assoc ?_ | (show W _ (.seq (.region _ _) _) _ _; refine W_reg (by simp; with_reducible rfl) ?_) | (show R _ _ _ (_ :: _) _ _ _ _; refine R_op (by simp (maxSteps := 2000000) [hlt, hlt', hw, d0, hx, v1, v2, v4, f1, f2, f3, hl]; with_reducible rfl) ?_) | (show R _ _ _ [] _ _ _ _; refine R_nil (by simp; with_reducible rfl) ?_) | (show W _ (.seq (.cond _ _ _) _) _ _; first | refine W_ct (by first | (simp [hlt, hlt', hw, d0, hx, v1, v2, v4, f1, f2, f3, hl]; done) | fail) ?_ | refine W_cf (by first | (simp [hlt, hlt', hw, d0, hx, v1, v2, v4, f1, f2, f3, hl]; done) | fail) ?_) | refine W_skip ?_ | refine W_bl (c := .seq _ _) ?_ | refine W_bl (c := .region _ _) ?_ | refine W_bl (c := .cond _ _ _) ?_ | refine W_bl (c := .block _ _) ?_ | refine W_rt ?_ | refine W_ex ?_ | refine W_end ?_ | refine W_tail (a := .region _ _) ?_ | refine W_tail (a := .cond _ _ _) ?_ | refine W_tail (a := .ret) ?_ | refine W_tail (a := .exit _) ?_ | refine W_tail (a := .block _ _) ?_ | refine QB_normal ?_ | refine QB_exit ?_ | refine QB_ret ?_ | refine QB_out (by decide) ?_ | refine QL_next ?_ | refine QL_exit ?_ | refine QL_ret ?_ | refine QL_out (by decide) ?_ | (show Fin _ _ .ret _; exact Fin_ret (by first | (simp; done) | (simp; with_reducible rfl))) | (show Fin _ _ .normal _; exact Fin_end (by first | (simp; done) | (simp; with_reducible rfl))))
  refine hn (r) (lo') (s2) _ ?_ ?_ ?_ ?_ ?_ ?_
  · exact hL2
  · exact hlo2
  · exact hu
  · first | omega | (simp; done) | (simp; omega)
  · omega
  · unfold HeadA; exact .inl (by simp; try rfl)

theorem d3A (d0 : asks[i].1 = 3) (hc : canon [0, 1, 5, 6] st = HeadA asks i r lo L) : W T c9_k0 st (Lift.Fin c9 (.bool true, [])) := by
  have hw := wrapS i _ hlt (by omega)
  have hlt' : (i : Int) < asks.length := by omega
  unfold HeadA at hc
  have hul : U L := by rw [← hL]; exact hu.drop lo
  have hs := hok.2
  have hLr : L.length ≤ r.length := by rw [← hL]; simp
  have v2 := T_add r lo L hL hlo (by omega) [asks[i].2.2] (by simp) (by simp)
  simp at v2
  have f1 := T_left (L ++ [asks[i].2.2]) 0 (L ++ [asks[i].2.2]) rfl (by omega) (by simp; omega)
  have f2 := T_same (L ++ [asks[i].2.2]) (by simp; omega)
  simp at f1 f2
  have b1 : L.length * 8 ≤ 140737488355328 := by omega
  have b2 : L.length ≤ 140737488355328 := by omega
  have b3 : (L.length + 1) * 8 ≤ 140737488355328 := by omega
  have b4 : L.length + 1 ≤ 140737488355328 := by omega

  unfold c9_k0
  refine W_round hc ?_
  unfold c9_l0
  repeat (first | refine W_assoc ?_ | (show W _ (.seq (.region _ _) _) _ _; refine W_reg (by simp; with_reducible rfl) ?_) | (show R _ _ _ (_ :: _) _ _ _ _; refine R_op (by simp (maxSteps := 2000000) [hlt, hlt', hw, d0, v2, f1, f2, b1, b2, b3, b4]; with_reducible rfl) ?_) | (show R _ _ _ [] _ _ _ _; refine R_nil (by simp; with_reducible rfl) ?_) | (show W _ (.seq (.cond _ _ _) _) _ _; first | refine W_ct (by first | (simp [hlt, hlt', hw, d0, v2, f1, f2, b1, b2, b3, b4]; done) | fail) ?_ | refine W_cf (by first | (simp [hlt, hlt', hw, d0, v2, f1, f2, b1, b2, b3, b4]; done) | fail) ?_) | refine W_skip ?_ | refine W_bl (c := .seq _ _) ?_ | refine W_bl (c := .region _ _) ?_ | refine W_bl (c := .cond _ _ _) ?_ | refine W_bl (c := .block _ _) ?_ | refine W_rt ?_ | refine W_ex ?_ | refine W_end ?_ | refine W_tail (a := .region _ _) ?_ | refine W_tail (a := .cond _ _ _) ?_ | refine W_tail (a := .ret) ?_ | refine W_tail (a := .exit _) ?_ | refine W_tail (a := .block _ _) ?_ | refine QB_normal ?_ | refine QB_exit ?_ | refine QB_ret ?_ | refine QB_out (by decide) ?_ | refine QL_next ?_ | refine QL_exit ?_ | refine QL_ret ?_ | refine QL_out (by decide) ?_ | (show Fin _ _ .ret _; exact Fin_ret (by first | (simp; done) | (simp; with_reducible rfl))) | (show Fin _ _ .normal _; exact Fin_end (by first | (simp; done) | (simp; with_reducible rfl))))
  refine hn (L ++ [asks[i].2.2]) (0) (L ++ [asks[i].2.2]) _ ?_ ?_ ?_ ?_ ?_ ?_
  · simp
  · omega
  · refine hul.app fun y hy => ?_
    simp at hy; subst hy; exact hs
  · simp
  · first | omega | (simp; done) | (simp; omega)
  · unfold HeadB; exact .inr ⟨by first | assumption | simp, by simp; try rfl⟩

theorem d3B (d0 : asks[i].1 = 3) (hne : L ≠ []) (hc : canon [0, 1, 5, 6] st = HeadB asks i r lo L) : W T c9_k0 st (Lift.Fin c9 (.bool true, [])) := by
  have hw := wrapS i _ hlt (by omega)
  have hlt' : (i : Int) < asks.length := by omega
  unfold HeadB at hc
  have hul : U L := by rw [← hL]; exact hu.drop lo
  have hs := hok.2
  have hLr : L.length ≤ r.length := by rw [← hL]; simp
  have v2 := T_add r lo L hL hlo (by omega) [asks[i].2.2] (by simp) (by simp)
  simp at v2
  have f1 := T_left (L ++ [asks[i].2.2]) 0 (L ++ [asks[i].2.2]) rfl (by omega) (by simp; omega)
  have f2 := T_same (L ++ [asks[i].2.2]) (by simp; omega)
  simp at f1 f2
  have b1 : L.length * 8 ≤ 140737488355328 := by omega
  have b2 : L.length ≤ 140737488355328 := by omega
  have b3 : (L.length + 1) * 8 ≤ 140737488355328 := by omega
  have b4 : L.length + 1 ≤ 140737488355328 := by omega

  unfold c9_k0
  refine W_round hc ?_
  unfold c9_l0
  repeat (first | refine W_assoc ?_ | (show W _ (.seq (.region _ _) _) _ _; refine W_reg (by simp; with_reducible rfl) ?_) | (show R _ _ _ (_ :: _) _ _ _ _; refine R_op (by simp (maxSteps := 2000000) [hlt, hlt', hw, d0, v2, f1, f2, b1, b2, b3, b4, hne]; with_reducible rfl) ?_) | (show R _ _ _ [] _ _ _ _; refine R_nil (by simp; with_reducible rfl) ?_) | (show W _ (.seq (.cond _ _ _) _) _ _; first | refine W_ct (by first | (simp [hlt, hlt', hw, d0, v2, f1, f2, b1, b2, b3, b4, hne]; done) | fail) ?_ | refine W_cf (by first | (simp [hlt, hlt', hw, d0, v2, f1, f2, b1, b2, b3, b4, hne]; done) | fail) ?_) | refine W_skip ?_ | refine W_bl (c := .seq _ _) ?_ | refine W_bl (c := .region _ _) ?_ | refine W_bl (c := .cond _ _ _) ?_ | refine W_bl (c := .block _ _) ?_ | refine W_rt ?_ | refine W_ex ?_ | refine W_end ?_ | refine W_tail (a := .region _ _) ?_ | refine W_tail (a := .cond _ _ _) ?_ | refine W_tail (a := .ret) ?_ | refine W_tail (a := .exit _) ?_ | refine W_tail (a := .block _ _) ?_ | refine QB_normal ?_ | refine QB_exit ?_ | refine QB_ret ?_ | refine QB_out (by decide) ?_ | refine QL_next ?_ | refine QL_exit ?_ | refine QL_ret ?_ | refine QL_out (by decide) ?_ | (show Fin _ _ .ret _; exact Fin_ret (by first | (simp; done) | (simp; with_reducible rfl))) | (show Fin _ _ .normal _; exact Fin_end (by first | (simp; done) | (simp; with_reducible rfl))))
  refine hn (L ++ [asks[i].2.2]) (0) (L ++ [asks[i].2.2]) _ ?_ ?_ ?_ ?_ ?_ ?_
  · simp
  · omega
  · refine hul.app fun y hy => ?_
    simp at hy; subst hy; exact hs
  · simp
  · first | omega | (simp; done) | (simp; omega)
  · unfold HeadB; exact .inr ⟨by first | assumption | simp, by simp; try rfl⟩

theorem d4A (d0 : asks[i].1 ≠ 0) (d1 : asks[i].1 ≠ 1) (d2 : asks[i].1 ≠ 2) (d3 : asks[i].1 ≠ 3) (hc : canon [0, 1, 5, 6] st = HeadA asks i r lo L) : W T c9_k0 st (Lift.Fin c9 (.bool true, [])) := by
  have hw := wrapS i _ hlt (by omega)
  have hlt' : (i : Int) < asks.length := by omega
  unfold HeadA at hc
  have hul : U L := by rw [← hL]; exact hu.drop lo
  have hLr : L.length ≤ r.length := by rw [← hL]; simp
  have v1 := T_clone r lo L hL hlo (by omega)
  have v2 := T_add r lo L hL hlo (by omega) [1, 2] (by simp) (by simp)
  obtain ⟨y, l, hyl⟩ : ∃ y l, L ++ [1, 2] = y :: l := by cases L <;> exact ⟨_, _, rfl⟩
  have hlen : l.length + 1 = L.length + 2 := by
    have := congrArg List.length hyl
    simp at this; omega
  obtain ⟨v3, _, _⟩ := T_next (L ++ [1, 2]) 0 y l hyl
  rw [hlen] at v3
  rw [show enc (eInt .u64) [(1 : Int), 2] = [[.int .u64 1], [.int .u64 2]] from rfl] at v2
  simp at v2 v3
  have f1 := T_left L 0 L rfl (by omega) (by first | omega | (simp; done) | (simp; omega))
  have f2 := T_same L (by first | omega | (simp; done) | (simp; omega))
  have f3 := FV_of f2
  try simp at f1 f2 f3

  unfold c9_k0
  refine W_round hc ?_
  unfold c9_l0
  repeat (first | refine W_assoc ?_ | (show W _ (.seq (.region _ _) _) _ _; refine W_reg (by simp; with_reducible rfl) ?_) | (show R _ _ _ (_ :: _) _ _ _ _; refine R_op (by simp (maxSteps := 2000000) [hlt, hlt', hw, d0, d1, d2, d3, v1, v2, v3, f1, f2, f3]; with_reducible rfl) ?_) | (show R _ _ _ [] _ _ _ _; refine R_nil (by simp; with_reducible rfl) ?_) | (show W _ (.seq (.cond _ _ _) _) _ _; first | refine W_ct (by first | (simp [hlt, hlt', hw, d0, d1, d2, d3, v1, v2, v3, f1, f2, f3]; done) | fail) ?_ | refine W_cf (by first | (simp [hlt, hlt', hw, d0, d1, d2, d3, v1, v2, v3, f1, f2, f3]; done) | fail) ?_) | refine W_skip ?_ | refine W_bl (c := .seq _ _) ?_ | refine W_bl (c := .region _ _) ?_ | refine W_bl (c := .cond _ _ _) ?_ | refine W_bl (c := .block _ _) ?_ | refine W_rt ?_ | refine W_ex ?_ | refine W_end ?_ | refine W_tail (a := .region _ _) ?_ | refine W_tail (a := .cond _ _ _) ?_ | refine W_tail (a := .ret) ?_ | refine W_tail (a := .exit _) ?_ | refine W_tail (a := .block _ _) ?_ | refine QB_normal ?_ | refine QB_exit ?_ | refine QB_ret ?_ | refine QB_out (by decide) ?_ | refine QL_next ?_ | refine QL_exit ?_ | refine QL_ret ?_ | refine QL_out (by decide) ?_ | (show Fin _ _ .ret _; exact Fin_ret (by first | (simp; done) | (simp; with_reducible rfl))) | (show Fin _ _ .normal _; exact Fin_end (by first | (simp; done) | (simp; with_reducible rfl))))
  refine hn (L) (0) (L) _ ?_ ?_ ?_ ?_ ?_ ?_
  · rfl
  · omega
  · exact hul
  · omega
  · omega
  · unfold HeadA; exact .inl (by simp; try rfl)

theorem d4B (d0 : asks[i].1 ≠ 0) (d1 : asks[i].1 ≠ 1) (d2 : asks[i].1 ≠ 2) (d3 : asks[i].1 ≠ 3) (hne : L ≠ []) (hc : canon [0, 1, 5, 6] st = HeadB asks i r lo L) : W T c9_k0 st (Lift.Fin c9 (.bool true, [])) := by
  have hw := wrapS i _ hlt (by omega)
  have hlt' : (i : Int) < asks.length := by omega
  unfold HeadB at hc
  have hul : U L := by rw [← hL]; exact hu.drop lo
  have hLr : L.length ≤ r.length := by rw [← hL]; simp
  have v1 := T_clone r lo L hL hlo (by omega)
  have v2 := T_add r lo L hL hlo (by omega) [1, 2] (by simp) (by simp)
  obtain ⟨y, l, hyl⟩ : ∃ y l, L ++ [1, 2] = y :: l := by cases L <;> exact ⟨_, _, rfl⟩
  have hlen : l.length + 1 = L.length + 2 := by
    have := congrArg List.length hyl
    simp at this; omega
  obtain ⟨v3, _, _⟩ := T_next (L ++ [1, 2]) 0 y l hyl
  rw [hlen] at v3
  rw [show enc (eInt .u64) [(1 : Int), 2] = [[.int .u64 1], [.int .u64 2]] from rfl] at v2
  simp at v2 v3
  have f1 := T_left L 0 L rfl (by omega) (by first | omega | (simp; done) | (simp; omega))
  have f2 := T_same L (by first | omega | (simp; done) | (simp; omega))
  have f3 := FV_of f2
  try simp at f1 f2 f3

  unfold c9_k0
  refine W_round hc ?_
  unfold c9_l0
  repeat (first | refine W_assoc ?_ | (show W _ (.seq (.region _ _) _) _ _; refine W_reg (by simp; with_reducible rfl) ?_) | (show R _ _ _ (_ :: _) _ _ _ _; refine R_op (by simp (maxSteps := 2000000) [hlt, hlt', hw, d0, d1, d2, d3, v1, v2, v3, f1, f2, f3, hne]; with_reducible rfl) ?_) | (show R _ _ _ [] _ _ _ _; refine R_nil (by simp; with_reducible rfl) ?_) | (show W _ (.seq (.cond _ _ _) _) _ _; first | refine W_ct (by first | (simp [hlt, hlt', hw, d0, d1, d2, d3, v1, v2, v3, f1, f2, f3, hne]; done) | fail) ?_ | refine W_cf (by first | (simp [hlt, hlt', hw, d0, d1, d2, d3, v1, v2, v3, f1, f2, f3, hne]; done) | fail) ?_) | refine W_skip ?_ | refine W_bl (c := .seq _ _) ?_ | refine W_bl (c := .region _ _) ?_ | refine W_bl (c := .cond _ _ _) ?_ | refine W_bl (c := .block _ _) ?_ | refine W_rt ?_ | refine W_ex ?_ | refine W_end ?_ | refine W_tail (a := .region _ _) ?_ | refine W_tail (a := .cond _ _ _) ?_ | refine W_tail (a := .ret) ?_ | refine W_tail (a := .exit _) ?_ | refine W_tail (a := .block _ _) ?_ | refine QB_normal ?_ | refine QB_exit ?_ | refine QB_ret ?_ | refine QB_out (by decide) ?_ | refine QL_next ?_ | refine QL_exit ?_ | refine QL_ret ?_ | refine QL_out (by decide) ?_ | (show Fin _ _ .ret _; exact Fin_ret (by first | (simp; done) | (simp; with_reducible rfl))) | (show Fin _ _ .normal _; exact Fin_end (by first | (simp; done) | (simp; with_reducible rfl))))
  refine hn (L) (0) (L) _ ?_ ?_ ?_ ?_ ?_ ?_
  · rfl
  · omega
  · exact hul
  · omega
  · omega
  · unfold HeadB; exact .inr ⟨by first | assumption | simp, by simp; try rfl⟩

end

theorem plays_loop (asks : List P3) (ha : asks.length ≤ 40) (hok : ∀ a ∈ asks, okA a) :
    ∀ (n i : Nat) (r : List Int) (lo : Nat) (L : List Int) (st : ASt), i + n = asks.length → r.drop lo = L → lo ≤ r.length → U r → L.length ≤ 100 + 10 * i → r.length ≤ 100 + 10 * i →
      (canon [0, 1, 5, 6] st = HeadA asks i r lo L ∨ (L ≠ [] ∧ canon [0, 1, 5, 6] st = HeadB asks i r lo L)) → W T c9_k0 st (Lift.Fin c9 (.bool true, [])) := by
  intro n
  induction n with
  | zero =>
    intro i r lo L st hi _ _ _ _ _ hc
    obtain rfl : i = asks.length := by omega
    exact plays_end asks r lo L st (hc.imp id And.right)
  | succ n ih =>
    intro i r lo L st hi hL hlo hu hl1 hl2 hc
    have hlt : i < asks.length := by omega
    have ho := hok asks[i] (List.getElem_mem hlt)
    have hn : Next asks (i + 1) r L := fun r' lo' L' st' a1 a2 a3 a4 a5 a6 => ih (i + 1) r' lo' L' st' (by omega) a1 a2 a3 (by omega) (by omega) a6
    have b1 : L.length ≤ 1000 := by omega
    have b2 : r.length ≤ 1000 := by omega
    by_cases d0 : asks[i].1 = 0
    · rcases hc with hc | ⟨hne, hc⟩
      · cases hd : L with
        | nil => exact d0A0 asks ha i hlt ho r lo L hL hlo hu b1 b2 hn st d0 hd hc
        | cons y l => exact d0A1 asks ha i hlt ho r lo L hL hlo hu b1 b2 hn st d0 y l hd hc
      · cases hd : L with
        | nil => exact absurd hd hne
        | cons y l =>
          by_cases hl : l = []
          · exact d0B0 asks ha i hlt ho r lo L hL hlo hu b1 b2 hn st d0 y l hd hl hc
          · exact d0B1 asks ha i hlt ho r lo L hL hlo hu b1 b2 hn st d0 y l hd hl hc
    by_cases d1 : asks[i].1 = 1
    · by_cases h1 : asks[i].2.1 < 1
      · rcases hc with hc | ⟨hne, hc⟩
        · exact d1Az asks ha i hlt ho r lo L hL hlo hu b1 b2 hn st d1 h1 hc
        · exact d1Bz asks ha i hlt ho r lo L hL hlo hu b1 b2 hn st d1 h1 hne hc
      · have h2 : 1 ≤ asks[i].2.1 := by omega
        rcases hc with hc | ⟨hne, hc⟩
        · cases hd : L with
          | nil => exact d1A0 asks ha i hlt ho r lo L hL hlo hu b1 b2 hn st d1 h2 hd hc
          | cons y l => exact d1A1 asks ha i hlt ho r lo L hL hlo hu b1 b2 hn st d1 h2 y l hd hc
        · cases hd : L with
          | nil => exact absurd hd hne
          | cons y l =>
            by_cases hl : l = []
            · exact d1B0 asks ha i hlt ho r lo L hL hlo hu b1 b2 hn st d1 h2 y l hd hl hc
            · exact d1B1 asks ha i hlt ho r lo L hL hlo hu b1 b2 hn st d1 h2 y l hd hl hc
    by_cases d2 : asks[i].1 = 2
    · rcases hc with hc | ⟨hne, hc⟩
      · exact d2A asks ha i hlt ho r lo L hL hlo hu b1 b2 hn st d2 hc
      · by_cases hl : (sel asks[i].2.1.toNat L asks[i].2.2.toNat).2 = []
        · exact d2B0 asks ha i hlt ho r lo L hL hlo hu b1 b2 hn st d2 hl hc
        · exact d2B1 asks ha i hlt ho r lo L hL hlo hu b1 b2 hn st d2 hl hc
    by_cases d3 : asks[i].1 = 3
    · rcases hc with hc | ⟨hne, hc⟩
      · exact d3A asks ha i hlt ho r lo L hL hlo hu b1 b2 hn st d3 hc
      · exact d3B asks ha i hlt ho r lo L hL hlo hu b1 b2 hn st d3 hne hc
    rcases hc with hc | ⟨hne, hc⟩
    · exact d4A asks ha i hlt ho r lo L hL hlo hu b1 b2 hn st d0 d1 d2 d3 hc
    · exact d4B asks ha i hlt ho r lo L hL hlo hu b1 b2 hn st d0 d1 d2 d3 hne hc

theorem plays (l : List Int) (hu : U l) (asks : List P3) (hok : ∀ a ∈ asks, okA a) : F T 9 [.ro 1 (enc (eInt .u64) l) false, .ro 3 (enc e3 asks) false] [] = some (.bool true, []) := by
  refine F_W T9 ?_
  simp only [c9, c9_b, Lift.start]
  by_cases h1 : 100 < l.length
  · have h1' : (100 : Int) < l.length := by omega
    repeat (first | refine W_assoc ?_ | (show W _ (.seq (.region _ _) _) _ _; refine W_reg (by simp; with_reducible rfl) ?_) | (show R _ _ _ (_ :: _) _ _ _ _; refine R_op (by simp (maxSteps := 2000000) [h1, h1', V_works07]; with_reducible rfl) ?_) | (show R _ _ _ [] _ _ _ _; refine R_nil (by simp; with_reducible rfl) ?_) | (show W _ (.seq (.cond _ _ _) _) _ _; first | refine W_ct (by first | (simp [h1, h1', V_works07]; done) | fail) ?_ | refine W_cf (by first | (simp [h1, h1', V_works07]; done) | fail) ?_) | refine W_skip ?_ | refine W_bl (c := .seq _ _) ?_ | refine W_bl (c := .region _ _) ?_ | refine W_bl (c := .cond _ _ _) ?_ | refine W_bl (c := .block _ _) ?_ | refine W_rt ?_ | refine W_ex ?_ | refine W_end ?_ | refine W_tail (a := .region _ _) ?_ | refine W_tail (a := .cond _ _ _) ?_ | refine W_tail (a := .ret) ?_ | refine W_tail (a := .exit _) ?_ | refine W_tail (a := .block _ _) ?_ | refine QB_normal ?_ | refine QB_exit ?_ | refine QB_ret ?_ | refine QB_out (by decide) ?_ | refine QL_next ?_ | refine QL_exit ?_ | refine QL_ret ?_ | refine QL_out (by decide) ?_ | (show Fin _ _ .ret _; exact Fin_ret (by first | (simp [c9]; done) | (simp [c9]; with_reducible rfl))) | (show Fin _ _ .normal _; exact Fin_end (by first | (simp [c9]; done) | (simp [c9]; with_reducible rfl))))
  have h1' : ¬ (100 : Int) < l.length := by omega
  by_cases h2 : 40 < asks.length
  · have h2' : (40 : Int) < asks.length := by omega
    repeat (first | refine W_assoc ?_ | (show W _ (.seq (.region _ _) _) _ _; refine W_reg (by simp; with_reducible rfl) ?_) | (show R _ _ _ (_ :: _) _ _ _ _; refine R_op (by simp (maxSteps := 2000000) [h1, h1', h2, h2', V_works07]; with_reducible rfl) ?_) | (show R _ _ _ [] _ _ _ _; refine R_nil (by simp; with_reducible rfl) ?_) | (show W _ (.seq (.cond _ _ _) _) _ _; first | refine W_ct (by first | (simp [h1, h1', h2, h2', V_works07]; done) | fail) ?_ | refine W_cf (by first | (simp [h1, h1', h2, h2', V_works07]; done) | fail) ?_) | refine W_skip ?_ | refine W_bl (c := .seq _ _) ?_ | refine W_bl (c := .region _ _) ?_ | refine W_bl (c := .cond _ _ _) ?_ | refine W_bl (c := .block _ _) ?_ | refine W_rt ?_ | refine W_ex ?_ | refine W_end ?_ | refine W_tail (a := .region _ _) ?_ | refine W_tail (a := .cond _ _ _) ?_ | refine W_tail (a := .ret) ?_ | refine W_tail (a := .exit _) ?_ | refine W_tail (a := .block _ _) ?_ | refine QB_normal ?_ | refine QB_exit ?_ | refine QB_ret ?_ | refine QB_out (by decide) ?_ | refine QL_next ?_ | refine QL_exit ?_ | refine QL_ret ?_ | refine QL_out (by decide) ?_ | (show Fin _ _ .ret _; exact Fin_ret (by first | (simp [c9]; done) | (simp [c9]; with_reducible rfl))) | (show Fin _ _ .normal _; exact Fin_end (by first | (simp [c9]; done) | (simp [c9]; with_reducible rfl))))
  have h2' : ¬ (40 : Int) < asks.length := by omega
  have v1 := F_new l (by omega)
  repeat (first | refine W_assoc ?_ | (show W _ (.seq (.region _ _) _) _ _; refine W_reg (by simp; with_reducible rfl) ?_) | (show R _ _ _ (_ :: _) _ _ _ _; refine R_op (by simp (maxSteps := 2000000) [h1, h1', h2, h2', v1]; with_reducible rfl) ?_) | (show R _ _ _ [] _ _ _ _; refine R_nil (by simp; with_reducible rfl) ?_) | (show W _ (.seq (.cond _ _ _) _) _ _; first | refine W_ct (by first | (simp [h1, h1', h2, h2', v1]; done) | fail) ?_ | refine W_cf (by first | (simp [h1, h1', h2, h2', v1]; done) | fail) ?_) | refine W_skip ?_ | refine W_bl (c := .seq _ _) ?_ | refine W_bl (c := .region _ _) ?_ | refine W_bl (c := .cond _ _ _) ?_ | refine W_bl (c := .block _ _) ?_ | refine W_rt ?_ | refine W_ex ?_ | refine W_end ?_ | refine W_tail (a := .region _ _) ?_ | refine W_tail (a := .cond _ _ _) ?_ | refine W_tail (a := .ret) ?_ | refine W_tail (a := .exit _) ?_ | refine W_tail (a := .block _ _) ?_ | refine QB_normal ?_ | refine QB_exit ?_ | refine QB_ret ?_ | refine QB_out (by decide) ?_ | refine QL_next ?_ | refine QL_exit ?_ | refine QL_ret ?_ | refine QL_out (by decide) ?_ | (show Fin _ _ .ret _; exact Fin_ret (by first | (simp; done) | (simp; with_reducible rfl))) | (show Fin _ _ .normal _; exact Fin_end (by first | (simp; done) | (simp; with_reducible rfl))))
  refine plays_loop asks (by omega) hok asks.length 0 l 0 l _ ?_ ?_ ?_ ?_ ?_ ?_ ?_
  · omega
  · simp
  · omega
  · exact hu
  · omega
  · omega
  · unfold HeadA; exact .inl (by simp; try rfl)

end Go.Proofs.Ytnobgooojbppbaa.Flock
