/- Frames: all of them; the laws of cutting. -/
import Derived.Test.YtnobgooojbppbacFrame
set_option linter.all false
set_option linter.unusedSimpArgs false
set_option maxRecDepth 100000
set_option maxHeartbeats 8000000
namespace Go.Proofs.Ytnobgooojbppbac.Oct
open Go Go.RowKit Go.Proofs.Ytnobgooojbppbac.Lift Go.Proofs.Ytnobgooojbppbac.TOC Go.Proofs.Ytnobgooojbppbac.Base Go.Proofs.Ytnobgooojbppbac Go.Proofs.Ytnobgooojbppbac.CrcC

@[simp] theorem row_str (s : ByteArray) : [[AV.str s]] = enc eStr [s] := rfl

theorem cutP_le (b : List Int) (h : (cutP b).2.2 = 0) : 4 ≤ (cutP b).2.1 ∧ (cutP b).2.1 ≤ b.length := by
  unfold cutP at *
  split at h
  · rename_i q; exact absurd h q
  · rename_i q
    rw [if_neg q]
    split at h
    · simp at h
    · rename_i q2
      rw [if_neg q2]
      split at h
      · rename_i q3
        rw [if_pos q3]
        simp only []
        omega
      · simp at h

theorem nxt_e' (r : List Int) (m : Int) : (nxt r m).2.2 = 0 ∨ (nxt r m).2.2 = 2 ∨ (nxt r m).2.2 = 3 ∨ (nxt r m).2.2 = 4 := by
  cases r with
  | nil => simp [nxt]
  | cons a t =>
    rw [nxt.eq_def]
    simp only []
    split
    · unfold capped; split <;> simp
    · split
      · simp
      · split
        · simp
        · split
          · simp
          · unfold capped; split <;> simp

theorem cutP_wr (b : List Int) : IntKind.i64.wrap (cutP b).2.2 = (cutP b).2.2 := by
  have h1 := nxt_e' b 4096
  unfold cutP
  split
  · have : (rdT b 0 4096).2.2 = 0 ∨ (rdT b 0 4096).2.2 = 2 ∨ (rdT b 0 4096).2.2 = 3 ∨ (rdT b 0 4096).2.2 = 4 := by
      unfold rdT
      split
      · exact .inl rfl
      · split
        · exact h1
        · split
          · exact .inr (.inl rfl)
          · exact .inl rfl
    rcases this with h | h | h | h <;> rw [h] <;> rfl
  · split
    · rfl
    · split <;> rfl

theorem all_loop (l : List Int) (hb : ∀ a ∈ l, 0 ≤ a ∧ a ≤ 255) (hl : l.length ≤ 4112) : ∀ (f g : Nat) (out : List ByteArray) (st : ASt), g ≤ l.length → (l.drop g).length ≤ f → out.length + f ≤ 100000 → canon [0, 2, 3] st = ⟨[.ro 1 (enc (eInt .u8) l) false, .top, .own 0 0 out.length, .int .i64 g, .top, .top, .top, .top, .top, .top, .top, .top, .top, .top, .top, .top, .top, .top, .top, .top, .top, .top, .top, .top, .top, .top, .top, .top, .top, .top], [(0, ⟨9, 1, false, enc eStr out, 0⟩)], 1, 0⟩ →
    W T c44_k0 st (Lift.Fin c44 (.tup [.own 0 0 (out ++ (allP f (l.drop g)).1).length, .int .i64 ((g + (allP f (l.drop g)).2 : Nat) : Int)], [⟨9, 1, false, enc eStr (out ++ (allP f (l.drop g)).1), 0⟩])) := by
  intro f
  induction f with
  | zero =>
    intro g out st hg hf ho hc
    obtain rfl : g = l.length := by simp at hf; omega
    simp only [allP, List.append_nil, Nat.add_zero]
    have h1 : ¬ (l.length : Int) < l.length := by omega
    unfold c44_k0
    refine W_round hc ?_
    unfold c44_l0
    repeat (first | refine W_assoc ?_ | (show W _ (.seq (.region _ _) _) _ _; refine W_reg (by simp; with_reducible rfl) ?_) | (show R _ _ _ (_ :: _) _ _ _ _; refine R_op (by simp (maxSteps := 2000000) [h1]; with_reducible rfl) ?_) | (show R _ _ _ [] _ _ _ _; refine R_nil (by simp; with_reducible rfl) ?_) | (show W _ (.seq (.cond _ _ _) _) _ _; first | refine W_ct (by first | (simp [h1]; done) | fail) ?_ | refine W_cf (by first | (simp [h1]; done) | fail) ?_) | refine W_skip ?_ | refine W_bl (c := .seq _ _) ?_ | refine W_bl (c := .region _ _) ?_ | refine W_bl (c := .cond _ _ _) ?_ | refine W_bl (c := .block _ _) ?_ | refine W_rt ?_ | refine W_ex ?_ | refine W_end ?_ | refine W_tail (a := .region _ _) ?_ | refine W_tail (a := .cond _ _ _) ?_ | refine W_tail (a := .ret) ?_ | refine W_tail (a := .exit _) ?_ | refine W_tail (a := .block _ _) ?_ | refine QB_normal ?_ | refine QB_exit ?_ | refine QB_ret ?_ | refine QB_out (by decide) ?_ | refine QL_next ?_ | refine QL_exit ?_ | refine QL_ret ?_ | refine QL_out (by decide) ?_ | (show Fin _ _ .ret _; exact Fin_ret (by first | (simp [c44]; done) | (simp [c44]; with_reducible rfl))) | (show Fin _ _ .normal _; exact Fin_end (by first | (simp [c44]; done) | (simp [c44]; with_reducible rfl))))
  | succ f ih =>
    intro g out st hg hf ho hc
    by_cases hd : l.drop g = []
    · have hgl : g = l.length := by
        have := congrArg List.length hd
        simp at this; omega
      subst hgl
      have h1 : ¬ (l.length : Int) < l.length := by omega
      simp only [allP, hd, if_true, List.append_nil, Nat.add_zero]
      unfold c44_k0
      refine W_round hc ?_
      unfold c44_l0
      repeat (first | refine W_assoc ?_ | (show W _ (.seq (.region _ _) _) _ _; refine W_reg (by simp; with_reducible rfl) ?_) | (show R _ _ _ (_ :: _) _ _ _ _; refine R_op (by simp (maxSteps := 2000000) [h1]; with_reducible rfl) ?_) | (show R _ _ _ [] _ _ _ _; refine R_nil (by simp; with_reducible rfl) ?_) | (show W _ (.seq (.cond _ _ _) _) _ _; first | refine W_ct (by first | (simp [h1]; done) | fail) ?_ | refine W_cf (by first | (simp [h1]; done) | fail) ?_) | refine W_skip ?_ | refine W_bl (c := .seq _ _) ?_ | refine W_bl (c := .region _ _) ?_ | refine W_bl (c := .cond _ _ _) ?_ | refine W_bl (c := .block _ _) ?_ | refine W_rt ?_ | refine W_ex ?_ | refine W_end ?_ | refine W_tail (a := .region _ _) ?_ | refine W_tail (a := .cond _ _ _) ?_ | refine W_tail (a := .ret) ?_ | refine W_tail (a := .exit _) ?_ | refine W_tail (a := .block _ _) ?_ | refine QB_normal ?_ | refine QB_exit ?_ | refine QB_ret ?_ | refine QB_out (by decide) ?_ | refine QL_next ?_ | refine QL_exit ?_ | refine QL_ret ?_ | refine QL_out (by decide) ?_ | (show Fin _ _ .ret _; exact Fin_ret (by first | (simp [c44]; done) | (simp [c44]; with_reducible rfl))) | (show Fin _ _ .normal _; exact Fin_end (by first | (simp [c44]; done) | (simp [c44]; with_reducible rfl))))
    · have hdl : (l.drop g).length = l.length - g := List.length_drop
      have hpos : 0 < (l.drop g).length := List.length_pos_iff.2 hd
      have h1 : (g : Int) < l.length := by omega
      have h1' : g < l.length := by omega
      have h2 : (g : Int) ≤ l.length := by omega
      have f1 := FV_of (F_Cut (l.drop g) (fun a ha => hb a (List.mem_of_mem_drop ha)) (by omega))
      simp only [clo, List.map] at f1
      have hle := cutP_le (l.drop g)
      rw [show allP (f + 1) (l.drop g) = if (cutP (l.drop g)).2.2 ≠ 0 then ([], 0) else (bs (cutP (l.drop g)).1 :: (allP f ((l.drop g).drop (cutP (l.drop g)).2.1)).1, (cutP (l.drop g)).2.1 + (allP f ((l.drop g).drop (cutP (l.drop g)).2.1)).2) by rw [allP, if_neg hd]]
      generalize hq : cutP (l.drop g) = q at *
      obtain ⟨p, k, e⟩ := q
      simp only [] at f1 hle ⊢
      by_cases he : e = 0
      · subst he
        obtain ⟨k1, k2⟩ := hle rfl
        rw [if_neg (by simp)]
        simp only []
        have hw : IntKind.i64.wrap ((g : Int) + k) = (g : Int) + k := wrap_id _ (by omega) (by omega)
        have ih' := ih (g + k) (out ++ [bs p])
        rw [← List.drop_drop, List.append_assoc, List.cons_append, List.nil_append, Nat.add_assoc] at ih'
        have b1 : (out.length + 1) * 16 ≤ 140737488355328 := by omega
        have b2 : out.length + 1 ≤ 140737488355328 := by omega
        generalize (allP f ((l.drop g).drop k)).1 = r1 at *
        generalize (allP f ((l.drop g).drop k)).2 = r2 at *
        generalize bs p = bp at *
        unfold c44_k0
        refine W_round hc ?_
        unfold c44_l0
        repeat (first | refine W_assoc ?_ | (show W _ (.seq (.region _ _) _) _ _; refine W_reg (by simp; with_reducible rfl) ?_) | (show R _ _ _ (_ :: _) _ _ _ _; refine R_op (by simp (maxSteps := 2000000) [h1, h1', h2, f1, hw, b1, b2]; with_reducible rfl) ?_) | (show R _ _ _ [] _ _ _ _; refine R_nil (by simp; with_reducible rfl) ?_) | (show W _ (.seq (.cond _ _ _) _) _ _; first | refine W_ct (by first | (simp [h1, h1', h2, f1, hw, b1, b2]; done) | fail) ?_ | refine W_cf (by first | (simp [h1, h1', h2, f1, hw, b1, b2]; done) | fail) ?_) | refine W_skip ?_ | refine W_bl (c := .seq _ _) ?_ | refine W_bl (c := .region _ _) ?_ | refine W_bl (c := .cond _ _ _) ?_ | refine W_bl (c := .block _ _) ?_ | refine W_rt ?_ | refine W_ex ?_ | refine W_end ?_ | refine W_tail (a := .region _ _) ?_ | refine W_tail (a := .cond _ _ _) ?_ | refine W_tail (a := .ret) ?_ | refine W_tail (a := .exit _) ?_ | refine W_tail (a := .block _ _) ?_ | refine QB_normal ?_ | refine QB_exit ?_ | refine QB_ret ?_ | refine QB_out (by decide) ?_ | refine QL_next ?_ | refine QL_exit ?_ | refine QL_ret ?_ | refine QL_out (by decide) ?_ | (show Fin _ _ .ret _; exact Fin_ret (by first | (simp; done) | (simp; with_reducible rfl))) | (show Fin _ _ .normal _; exact Fin_end (by first | (simp; done) | (simp; with_reducible rfl))))
        refine ih' _ ?_ ?_ ?_ ?_
        · omega
        · rw [List.length_drop]; omega
        · simp; omega
        · simp; try rfl
      · rw [if_pos he]
        simp only [List.append_nil, Nat.add_zero]
        unfold c44_k0
        refine W_round hc ?_
        unfold c44_l0
        repeat (first | refine W_assoc ?_ | (show W _ (.seq (.region _ _) _) _ _; refine W_reg (by simp; with_reducible rfl) ?_) | (show R _ _ _ (_ :: _) _ _ _ _; refine R_op (by simp (maxSteps := 2000000) [h1, h1', h2, f1, he]; with_reducible rfl) ?_) | (show R _ _ _ [] _ _ _ _; refine R_nil (by simp; with_reducible rfl) ?_) | (show W _ (.seq (.cond _ _ _) _) _ _; first | refine W_ct (by first | (simp [h1, h1', h2, f1, he]; done) | fail) ?_ | refine W_cf (by first | (simp [h1, h1', h2, f1, he]; done) | fail) ?_) | refine W_skip ?_ | refine W_bl (c := .seq _ _) ?_ | refine W_bl (c := .region _ _) ?_ | refine W_bl (c := .cond _ _ _) ?_ | refine W_bl (c := .block _ _) ?_ | refine W_rt ?_ | refine W_ex ?_ | refine W_end ?_ | refine W_tail (a := .region _ _) ?_ | refine W_tail (a := .cond _ _ _) ?_ | refine W_tail (a := .ret) ?_ | refine W_tail (a := .exit _) ?_ | refine W_tail (a := .block _ _) ?_ | refine QB_normal ?_ | refine QB_exit ?_ | refine QB_ret ?_ | refine QB_out (by decide) ?_ | refine QL_next ?_ | refine QL_exit ?_ | refine QL_ret ?_ | refine QL_out (by decide) ?_ | (show Fin _ _ .ret _; exact Fin_ret (by first | (simp [c44]; done) | (simp [c44]; with_reducible rfl))) | (show Fin _ _ .normal _; exact Fin_end (by first | (simp [c44]; done) | (simp [c44]; with_reducible rfl))))

theorem F_All (l : List Int) (hb : ∀ a ∈ l, 0 ≤ a ∧ a ≤ 255) (hl : l.length ≤ 4112) : F T 44 [.ro 1 (enc (eInt .u8) l) false] [] = some (.tup [.own 0 0 (allP l.length l).1.length, .int .i64 (allP l.length l).2], [⟨9, 1, false, enc eStr (allP l.length l).1, 0⟩]) := by
  have hL := all_loop l hb hl l.length 0 []
  simp only [List.drop_zero, List.nil_append, Nat.zero_add] at hL
  refine F_W T44 ?_
  simp only [c44, c44_b, Lift.start]
  repeat (first | refine W_assoc ?_ | (show W _ (.seq (.region _ _) _) _ _; refine W_reg (by simp; with_reducible rfl) ?_) | (show R _ _ _ (_ :: _) _ _ _ _; refine R_op (by simp (maxSteps := 2000000); with_reducible rfl) ?_) | (show R _ _ _ [] _ _ _ _; refine R_nil (by simp; with_reducible rfl) ?_) | (show W _ (.seq (.cond _ _ _) _) _ _; first | refine W_ct (by first | (simp; done) | fail) ?_ | refine W_cf (by first | (simp; done) | fail) ?_) | refine W_skip ?_ | refine W_bl (c := .seq _ _) ?_ | refine W_bl (c := .region _ _) ?_ | refine W_bl (c := .cond _ _ _) ?_ | refine W_bl (c := .block _ _) ?_ | refine W_rt ?_ | refine W_ex ?_ | refine W_end ?_ | refine W_tail (a := .region _ _) ?_ | refine W_tail (a := .cond _ _ _) ?_ | refine W_tail (a := .ret) ?_ | refine W_tail (a := .exit _) ?_ | refine W_tail (a := .block _ _) ?_ | refine QB_normal ?_ | refine QB_exit ?_ | refine QB_ret ?_ | refine QB_out (by decide) ?_ | refine QL_next ?_ | refine QL_exit ?_ | refine QL_ret ?_ | refine QL_out (by decide) ?_ | (show Fin _ _ .ret _; exact Fin_ret (by first | (simp; done) | (simp; with_reducible rfl))) | (show Fin _ _ .normal _; exact Fin_end (by first | (simp; done) | (simp; with_reducible rfl))))
  refine hL _ ?_ ?_ ?_ ?_
  · omega
  · omega
  · simp; omega
  · simp; try rfl

theorem rall_loop (l : List Int) (hb : ∀ a ∈ l, 0 ≤ a ∧ a ≤ 255) (hl : l.length ≤ 4112) : ∀ (f g : Nat) (out : List ByteArray) (st : ASt), g ≤ l.length → (l.drop g).length ≤ f → out.length + f ≤ 100000 → canon [0, 4, 5] st = ⟨[.str (bs l), .top, .top, .top, .own 0 0 out.length, .int .i64 g, .top, .top, .top, .top, .top, .top, .top, .top, .top, .top, .top, .top, .top, .top, .top, .top, .top, .top, .top, .top, .top, .top, .top, .top, .top, .top, .top, .top], [(0, ⟨9, 1, false, enc eStr out, 0⟩)], 1, 0⟩ →
    W T c45_k0 st (Lift.Fin c45 (.tup [.own 0 0 (out ++ (allP f (l.drop g)).1).length, .int .i64 ((g + (allP f (l.drop g)).2 : Nat) : Int)], [⟨9, 1, false, enc eStr (out ++ (allP f (l.drop g)).1), 0⟩])) := by
  intro f
  induction f with
  | zero =>
    intro g out st hg hf ho hc
    obtain rfl : g = l.length := by simp at hf; omega
    simp only [allP, List.append_nil, Nat.add_zero]
    have h1 : ¬ (l.length : Int) < l.length := by omega
    unfold c45_k0
    refine W_round hc ?_
    unfold c45_l0
    repeat (first | refine W_assoc ?_ | (show W _ (.seq (.region _ _) _) _ _; refine W_reg (by simp; with_reducible rfl) ?_) | (show R _ _ _ (_ :: _) _ _ _ _; refine R_op (by simp (maxSteps := 2000000) [h1]; with_reducible rfl) ?_) | (show R _ _ _ [] _ _ _ _; refine R_nil (by simp; with_reducible rfl) ?_) | (show W _ (.seq (.cond _ _ _) _) _ _; first | refine W_ct (by first | (simp [h1]; done) | fail) ?_ | refine W_cf (by first | (simp [h1]; done) | fail) ?_) | refine W_skip ?_ | refine W_bl (c := .seq _ _) ?_ | refine W_bl (c := .region _ _) ?_ | refine W_bl (c := .cond _ _ _) ?_ | refine W_bl (c := .block _ _) ?_ | refine W_rt ?_ | refine W_ex ?_ | refine W_end ?_ | refine W_tail (a := .region _ _) ?_ | refine W_tail (a := .cond _ _ _) ?_ | refine W_tail (a := .ret) ?_ | refine W_tail (a := .exit _) ?_ | refine W_tail (a := .block _ _) ?_ | refine QB_normal ?_ | refine QB_exit ?_ | refine QB_ret ?_ | refine QB_out (by decide) ?_ | refine QL_next ?_ | refine QL_exit ?_ | refine QL_ret ?_ | refine QL_out (by decide) ?_ | (show Fin _ _ .ret _; exact Fin_ret (by first | (simp [c45]; done) | (simp [c45]; with_reducible rfl))) | (show Fin _ _ .normal _; exact Fin_end (by first | (simp [c45]; done) | (simp [c45]; with_reducible rfl))))
  | succ f ih =>
    intro g out st hg hf ho hc
    by_cases hd : l.drop g = []
    · have hgl : g = l.length := by
        have := congrArg List.length hd
        simp at this; omega
      subst hgl
      have h1 : ¬ (l.length : Int) < l.length := by omega
      simp only [allP, hd, if_true, List.append_nil, Nat.add_zero]
      unfold c45_k0
      refine W_round hc ?_
      unfold c45_l0
      repeat (first | refine W_assoc ?_ | (show W _ (.seq (.region _ _) _) _ _; refine W_reg (by simp; with_reducible rfl) ?_) | (show R _ _ _ (_ :: _) _ _ _ _; refine R_op (by simp (maxSteps := 2000000) [h1]; with_reducible rfl) ?_) | (show R _ _ _ [] _ _ _ _; refine R_nil (by simp; with_reducible rfl) ?_) | (show W _ (.seq (.cond _ _ _) _) _ _; first | refine W_ct (by first | (simp [h1]; done) | fail) ?_ | refine W_cf (by first | (simp [h1]; done) | fail) ?_) | refine W_skip ?_ | refine W_bl (c := .seq _ _) ?_ | refine W_bl (c := .region _ _) ?_ | refine W_bl (c := .cond _ _ _) ?_ | refine W_bl (c := .block _ _) ?_ | refine W_rt ?_ | refine W_ex ?_ | refine W_end ?_ | refine W_tail (a := .region _ _) ?_ | refine W_tail (a := .cond _ _ _) ?_ | refine W_tail (a := .ret) ?_ | refine W_tail (a := .exit _) ?_ | refine W_tail (a := .block _ _) ?_ | refine QB_normal ?_ | refine QB_exit ?_ | refine QB_ret ?_ | refine QB_out (by decide) ?_ | refine QL_next ?_ | refine QL_exit ?_ | refine QL_ret ?_ | refine QL_out (by decide) ?_ | (show Fin _ _ .ret _; exact Fin_ret (by first | (simp [c45]; done) | (simp [c45]; with_reducible rfl))) | (show Fin _ _ .normal _; exact Fin_end (by first | (simp [c45]; done) | (simp [c45]; with_reducible rfl))))
    · have hdl : (l.drop g).length = l.length - g := List.length_drop
      have hpos : 0 < (l.drop g).length := List.length_pos_iff.2 hd
      have h1 : (g : Int) < l.length := by omega
      have h1' : g < l.length := by omega
      have h2 : (g : Int) ≤ l.length := by omega
      have h2' : g ≤ l.length := by omega
      have f1 := FV_of (F_RCut (l.drop g) (fun a ha => hb a (List.mem_of_mem_drop ha)) (by omega))
      simp only [clo, List.map] at f1
      have hle := cutP_le (l.drop g)
      rw [show allP (f + 1) (l.drop g) = if (cutP (l.drop g)).2.2 ≠ 0 then ([], 0) else (bs (cutP (l.drop g)).1 :: (allP f ((l.drop g).drop (cutP (l.drop g)).2.1)).1, (cutP (l.drop g)).2.1 + (allP f ((l.drop g).drop (cutP (l.drop g)).2.1)).2) by rw [allP, if_neg hd]]
      generalize hq : cutP (l.drop g) = q at *
      obtain ⟨p, k, e⟩ := q
      simp only [] at f1 hle ⊢
      by_cases he : e = 0
      · subst he
        obtain ⟨k1, k2⟩ := hle rfl
        rw [if_neg (by simp)]
        simp only []
        have hw : IntKind.i64.wrap ((g : Int) + k) = (g : Int) + k := wrap_id _ (by omega) (by omega)
        have ih' := ih (g + k) (out ++ [bs p])
        rw [← List.drop_drop, List.append_assoc, List.cons_append, List.nil_append, Nat.add_assoc] at ih'
        have b1 : (out.length + 1) * 16 ≤ 140737488355328 := by omega
        have b2 : out.length + 1 ≤ 140737488355328 := by omega
        generalize (allP f ((l.drop g).drop k)).1 = r1 at *
        generalize (allP f ((l.drop g).drop k)).2 = r2 at *
        generalize bs p = bp at *
        unfold c45_k0
        refine W_round hc ?_
        unfold c45_l0
        repeat (first | refine W_assoc ?_ | (show W _ (.seq (.region _ _) _) _ _; refine W_reg (by simp; with_reducible rfl) ?_) | (show R _ _ _ (_ :: _) _ _ _ _; refine R_op (by simp (maxSteps := 2000000) [h1, h1', h2, h2', f1, hw, b1, b2]; with_reducible rfl) ?_) | (show R _ _ _ [] _ _ _ _; refine R_nil (by simp; with_reducible rfl) ?_) | (show W _ (.seq (.cond _ _ _) _) _ _; first | refine W_ct (by first | (simp [h1, h1', h2, h2', f1, hw, b1, b2]; done) | fail) ?_ | refine W_cf (by first | (simp [h1, h1', h2, h2', f1, hw, b1, b2]; done) | fail) ?_) | refine W_skip ?_ | refine W_bl (c := .seq _ _) ?_ | refine W_bl (c := .region _ _) ?_ | refine W_bl (c := .cond _ _ _) ?_ | refine W_bl (c := .block _ _) ?_ | refine W_rt ?_ | refine W_ex ?_ | refine W_end ?_ | refine W_tail (a := .region _ _) ?_ | refine W_tail (a := .cond _ _ _) ?_ | refine W_tail (a := .ret) ?_ | refine W_tail (a := .exit _) ?_ | refine W_tail (a := .block _ _) ?_ | refine QB_normal ?_ | refine QB_exit ?_ | refine QB_ret ?_ | refine QB_out (by decide) ?_ | refine QL_next ?_ | refine QL_exit ?_ | refine QL_ret ?_ | refine QL_out (by decide) ?_ | (show Fin _ _ .ret _; exact Fin_ret (by first | (simp; done) | (simp; with_reducible rfl))) | (show Fin _ _ .normal _; exact Fin_end (by first | (simp; done) | (simp; with_reducible rfl))))
        refine ih' _ ?_ ?_ ?_ ?_
        · omega
        · rw [List.length_drop]; omega
        · simp; omega
        · simp; try rfl
      · rw [if_pos he]
        simp only [List.append_nil, Nat.add_zero]
        unfold c45_k0
        refine W_round hc ?_
        unfold c45_l0
        repeat (first | refine W_assoc ?_ | (show W _ (.seq (.region _ _) _) _ _; refine W_reg (by simp; with_reducible rfl) ?_) | (show R _ _ _ (_ :: _) _ _ _ _; refine R_op (by simp (maxSteps := 2000000) [h1, h1', h2, h2', f1, he]; with_reducible rfl) ?_) | (show R _ _ _ [] _ _ _ _; refine R_nil (by simp; with_reducible rfl) ?_) | (show W _ (.seq (.cond _ _ _) _) _ _; first | refine W_ct (by first | (simp [h1, h1', h2, h2', f1, he]; done) | fail) ?_ | refine W_cf (by first | (simp [h1, h1', h2, h2', f1, he]; done) | fail) ?_) | refine W_skip ?_ | refine W_bl (c := .seq _ _) ?_ | refine W_bl (c := .region _ _) ?_ | refine W_bl (c := .cond _ _ _) ?_ | refine W_bl (c := .block _ _) ?_ | refine W_rt ?_ | refine W_ex ?_ | refine W_end ?_ | refine W_tail (a := .region _ _) ?_ | refine W_tail (a := .cond _ _ _) ?_ | refine W_tail (a := .ret) ?_ | refine W_tail (a := .exit _) ?_ | refine W_tail (a := .block _ _) ?_ | refine QB_normal ?_ | refine QB_exit ?_ | refine QB_ret ?_ | refine QB_out (by decide) ?_ | refine QL_next ?_ | refine QL_exit ?_ | refine QL_ret ?_ | refine QL_out (by decide) ?_ | (show Fin _ _ .ret _; exact Fin_ret (by first | (simp [c45]; done) | (simp [c45]; with_reducible rfl))) | (show Fin _ _ .normal _; exact Fin_end (by first | (simp [c45]; done) | (simp [c45]; with_reducible rfl))))

theorem F_RAll (l : List Int) (hb : ∀ a ∈ l, 0 ≤ a ∧ a ≤ 255) (hl : l.length ≤ 4112) : F T 45 [.str (bs l)] [] = some (.tup [.own 0 0 (allP l.length l).1.length, .int .i64 (allP l.length l).2], [⟨9, 1, false, enc eStr (allP l.length l).1, 0⟩]) := by
  have hL := rall_loop l hb hl l.length 0 []
  simp only [List.drop_zero, List.nil_append, Nat.zero_add] at hL
  refine F_W T45 ?_
  simp only [c45, c45_b, Lift.start]
  repeat (first | refine W_assoc ?_ | (show W _ (.seq (.region _ _) _) _ _; refine W_reg (by simp; with_reducible rfl) ?_) | (show R _ _ _ (_ :: _) _ _ _ _; refine R_op (by simp (maxSteps := 2000000); with_reducible rfl) ?_) | (show R _ _ _ [] _ _ _ _; refine R_nil (by simp; with_reducible rfl) ?_) | (show W _ (.seq (.cond _ _ _) _) _ _; first | refine W_ct (by first | (simp; done) | fail) ?_ | refine W_cf (by first | (simp; done) | fail) ?_) | refine W_skip ?_ | refine W_bl (c := .seq _ _) ?_ | refine W_bl (c := .region _ _) ?_ | refine W_bl (c := .cond _ _ _) ?_ | refine W_bl (c := .block _ _) ?_ | refine W_rt ?_ | refine W_ex ?_ | refine W_end ?_ | refine W_tail (a := .region _ _) ?_ | refine W_tail (a := .cond _ _ _) ?_ | refine W_tail (a := .ret) ?_ | refine W_tail (a := .exit _) ?_ | refine W_tail (a := .block _ _) ?_ | refine QB_normal ?_ | refine QB_exit ?_ | refine QB_ret ?_ | refine QB_out (by decide) ?_ | refine QL_next ?_ | refine QL_exit ?_ | refine QL_ret ?_ | refine QL_out (by decide) ?_ | (show Fin _ _ .ret _; exact Fin_ret (by first | (simp; done) | (simp; with_reducible rfl))) | (show Fin _ _ .normal _; exact Fin_end (by first | (simp; done) | (simp; with_reducible rfl))))
  refine hL _ ?_ ?_ ?_ ?_
  · omega
  · omega
  · simp; omega
  · simp; try rfl

theorem allP_len : ∀ (f : Nat) (r : List Int), (allP f r).1.length ≤ f
  | 0, r => by simp [allP]
  | f + 1, r => by
    rw [allP]
    split
    · simp
    · split
      · simp
      · have := allP_len f (r.drop (cutP r).2.1)
        simp; omega

theorem V_RSame (l : List ByteArray) (h : l.length ≤ 100000) : FV (F T) 46 [.ro 1 (enc eStr l) false, .ro 1 (enc eStr l) false] = some (.bool true) := by
  have := FV_of (F_R03_Same l l (by omega) (by omega))
  simpa using this

theorem cuts (l : List Int) (hb : ∀ a ∈ l, 0 ≤ a ∧ a ≤ 255) : F T 10 [.ro 1 (enc (eInt .u8) l) false] [] = some (.bool true, []) := by
  refine F_W T10 ?_
  simp only [c10, c10_b, Lift.start]
  by_cases h1 : 3000 < l.length
  · have h1' : (3000 : Int) < l.length := by omega
    repeat (first | refine W_assoc ?_ | (show W _ (.seq (.region _ _) _) _ _; refine W_reg (by simp; with_reducible rfl) ?_) | (show R _ _ _ (_ :: _) _ _ _ _; refine R_op (by simp (maxSteps := 2000000) [h1, h1', V_works03]; with_reducible rfl) ?_) | (show R _ _ _ [] _ _ _ _; refine R_nil (by simp; with_reducible rfl) ?_) | (show W _ (.seq (.cond _ _ _) _) _ _; first | refine W_ct (by first | (simp [h1, h1', V_works03]; done) | fail) ?_ | refine W_cf (by first | (simp [h1, h1', V_works03]; done) | fail) ?_) | refine W_skip ?_ | refine W_bl (c := .seq _ _) ?_ | refine W_bl (c := .region _ _) ?_ | refine W_bl (c := .cond _ _ _) ?_ | refine W_bl (c := .block _ _) ?_ | refine W_rt ?_ | refine W_ex ?_ | refine W_end ?_ | refine W_tail (a := .region _ _) ?_ | refine W_tail (a := .cond _ _ _) ?_ | refine W_tail (a := .ret) ?_ | refine W_tail (a := .exit _) ?_ | refine W_tail (a := .block _ _) ?_ | refine QB_normal ?_ | refine QB_exit ?_ | refine QB_ret ?_ | refine QB_out (by decide) ?_ | refine QL_next ?_ | refine QL_exit ?_ | refine QL_ret ?_ | refine QL_out (by decide) ?_ | (show Fin _ _ .ret _; exact Fin_ret (by first | (simp [c10]; done) | (simp [c10]; with_reducible rfl))) | (show Fin _ _ .normal _; exact Fin_end (by first | (simp [c10]; done) | (simp [c10]; with_reducible rfl))))
  have h1' : ¬ (3000 : Int) < l.length := by omega
  have f1 := FV_of (F_Cut l hb (by omega))
  have f2 := FV_of (F_RCut l hb (by omega))
  have f3 := FV_of (F_All l hb (by omega))
  have f4 := FV_of (F_RAll l hb (by omega))
  have hw := cutP_wr l
  have hal := allP_len l.length l
  have f5 := V_RSame (allP l.length l).1 (by omega)
  generalize (allP l.length l).1 = a1 at *
  generalize (allP l.length l).2 = a2 at *
  generalize cutP l = q at *
  obtain ⟨p, k, e⟩ := q
  simp at f1 f2 f3 f4
  simp only [] at hw
  generalize bs p = bp at *
  repeat (first | refine W_assoc ?_ | (show W _ (.seq (.region _ _) _) _ _; refine W_reg (by simp; with_reducible rfl) ?_) | (show R _ _ _ (_ :: _) _ _ _ _; refine R_op (by simp (maxSteps := 2000000) [h1, h1', f1, f2, f3, f4, f5, hw, V_works03]; with_reducible rfl) ?_) | (show R _ _ _ [] _ _ _ _; refine R_nil (by simp; with_reducible rfl) ?_) | (show W _ (.seq (.cond _ _ _) _) _ _; first | refine W_ct (by first | (simp [h1, h1', f1, f2, f3, f4, f5, hw, V_works03]; done) | fail) ?_ | refine W_cf (by first | (simp [h1, h1', f1, f2, f3, f4, f5, hw, V_works03]; done) | fail) ?_) | refine W_skip ?_ | refine W_bl (c := .seq _ _) ?_ | refine W_bl (c := .region _ _) ?_ | refine W_bl (c := .cond _ _ _) ?_ | refine W_bl (c := .block _ _) ?_ | refine W_rt ?_ | refine W_ex ?_ | refine W_end ?_ | refine W_tail (a := .region _ _) ?_ | refine W_tail (a := .cond _ _ _) ?_ | refine W_tail (a := .ret) ?_ | refine W_tail (a := .exit _) ?_ | refine W_tail (a := .block _ _) ?_ | refine QB_normal ?_ | refine QB_exit ?_ | refine QB_ret ?_ | refine QB_out (by decide) ?_ | refine QL_next ?_ | refine QL_exit ?_ | refine QL_ret ?_ | refine QL_out (by decide) ?_ | (show Fin _ _ .ret _; exact Fin_ret (by first | (simp [c10]; done) | (simp [c10]; with_reducible rfl))) | (show Fin _ _ .normal _; exact Fin_end (by first | (simp [c10]; done) | (simp [c10]; with_reducible rfl))))

end Go.Proofs.Ytnobgooojbppbac.Oct
