/- Packets: the document's bytes; the law of bytes. -/
import Derived.Test.YtnobgooojbppbacPack2
set_option linter.all false
set_option linter.unusedSimpArgs false
set_option maxRecDepth 100000
set_option maxHeartbeats 8000000
namespace Go.Proofs.Ytnobgooojbppbac.Oct
open Go Go.RowKit Go.Proofs.Ytnobgooojbppbac.Lift Go.Proofs.Ytnobgooojbppbac.TOC Go.Proofs.Ytnobgooojbppbac.Base Go.Proofs.Ytnobgooojbppbac Go.Proofs.Ytnobgooojbppbac.CrcC

theorem V_R23Bytes (p : Pk) (h : chkP p = true) (hb : ∀ x ∈ p.body, 0 ≤ x ∧ x ≤ 255) : FV (F T) 36 [.agg (pk p)] = some (.str (bs (frameB (bytesP p)))) := by
  have vc := V_R23Check p
  rw [h] at vc
  have hbl := (bytesP_len p h).1
  have hbr := bytesP_range p h hb
  obtain ⟨k, f, t, i, pe, se, b⟩ := p
  simp only [chkP, Bool.and_eq_true, decide_eq_true_eq, Bool.not_eq_true', decide_eq_false_iff_not] at h
  obtain ⟨h1, h2, h3, h4, h5, h6, h7, h8, h9, h10, h11, h12⟩ := h
  have h8' : 1 ≤ i ∧ i ≤ 72057594037927935 := by simpa [inF] using h8
  have cl : ∀ n : Int, 0 ≤ n → n ≤ 72057594037927935 → clampN n = n.toNat := fun n a b => by simp only [clampN]; omega
  have g1 := small_len k (by omega) (by omega)
  have g2 := small_len f h3 h4
  have g3 := small_len t h5 h6
  have g4 := numB_len i.toNat (by omega)
  have n1 := V_R01Num k
  rw [cl k (by omega) (by omega)] at n1
  have n2 := V_R01Num f
  rw [cl f (by omega) (by omega)] at n2
  have n3 := V_R01Num t
  rw [cl t (by omega) (by omega)] at n3
  have n4 := V_R01Num i
  rw [cl i (by omega) h8'.2] at n4
  have n5 : hP k = true → FV (F T) 70 [.int .i64 pe] = some (.str (bs (fb true pe))) ∧ (fb true pe).length ≤ 8 := by
    intro hq
    rw [hq] at h9
    simp [inF] at h9
    have := V_R01Num pe
    rw [cl pe (by omega) h9.2] at this
    exact ⟨this, fb_len _ _ (by omega)⟩
  have n6 : hS k = true → FV (F T) 70 [.int .i64 se] = some (.str (bs (fb true se))) ∧ (fb true se).length ≤ 8 := by
    intro hq
    rw [hq] at h10
    simp [inF] at h10
    have := V_R01Num se
    rw [cl se (by omega) h10.2] at this
    exact ⟨this, fb_len _ _ (by omega)⟩
  have n7 : FV (F T) 71 [.str (bs b)] = some (.str (bs (tb true b))) := by
    have := V_R01Text (bs b) (by rw [bs_size]; omega)
    rw [bs_size] at this
    rw [this]
    unfold tb textB
    rw [if_pos rfl, bs_append]
  have hlb : (tb true b).length ≤ 40 := by
    have := textB_len b (by omega)
    unfold tb
    rw [if_pos rfl]
    omega
  have fp : FV (F T) 41 [.str (bs (bytesP ⟨k, f, t, i, pe, se, b⟩))] = some (.str (bs (frameB (bytesP ⟨k, f, t, i, pe, se, b⟩)))) := by
    have := V_RPut (bs (bytesP ⟨k, f, t, i, pe, se, b⟩))
    rw [putB_bs _ (by omega) hbr] at this
    exact this
  have hby : bytesP ⟨k, f, t, i, pe, se, b⟩ = numB k.toNat ++ numB f.toNat ++ numB t.toNat ++ numB i.toNat ++ fb (hP k) pe ++ fb (hS k) se ++ tb (hB k) b := by simp [bytesP]
  have key : ∀ a, F T 36 [.agg (pk ⟨k, f, t, i, pe, se, b⟩)] [] = some (.str a, []) → FV (F T) 36 [.agg (pk ⟨k, f, t, i, pe, se, b⟩)] = some (.str a) := fun a h => by simpa using FV_of h
  refine key _ (F_W T36 ?_)
  generalize bs (frameB (bytesP ⟨k, f, t, i, pe, se, b⟩)) = FR at *
  simp only [pk] at vc ⊢
  simp only [c36, c36_b, Lift.start]
  have ap : ∀ x y : List Int, bs x ++ bs y = bs (x ++ y) := fun x y => (bs_append x y).symm
  have hk : k = 1 ∨ k = 2 ∨ k = 3 ∨ k = 4 := by omega
  rw [hby] at fp
  have sz : ∀ x y : List Int, x.length ≤ 200 → y.length ≤ 200 → x.length + y.length ≤ 4611686018427387904 := fun x y a b => by omega
  obtain ⟨r2, hr2⟩ : ∃ r, r = numB k.toNat ++ numB f.toNat := ⟨_, rfl⟩
  have l2 : r2.length = 2 := by rw [hr2]; simp; omega
  obtain ⟨r3, hr3⟩ : ∃ r, r = r2 ++ numB t.toNat := ⟨_, rfl⟩
  have l3 : r3.length = 3 := by rw [hr3]; simp; omega
  obtain ⟨r4, hr4⟩ : ∃ r, r = r3 ++ numB i.toNat := ⟨_, rfl⟩
  have l4 : r4.length ≤ 11 := by rw [hr4]; simp; omega
  have s1 := sz (numB k.toNat) (numB f.toNat) (by omega) (by omega)
  have s2 := sz r2 (numB t.toNat) (by omega) (by omega)
  have s3 := sz r3 (numB i.toNat) (by omega) (by omega)
  rw [← hr2, ← hr3, ← hr4] at fp
  have a1 := ap (numB k.toNat) (numB f.toNat)
  have a2 := ap r2 (numB t.toNat)
  have a3 := ap r3 (numB i.toNat)
  rw [← hr2] at a1
  rw [← hr3] at a2
  rw [← hr4] at a3
  clear hr2 hr3 hr4 hby
  generalize numB k.toNat = u1 at *
  generalize numB f.toNat = u2 at *
  generalize numB t.toNat = u3 at *
  generalize numB i.toNat = u4 at *
  rcases hk with rfl | rfl | rfl | rfl
  · simp only [show hP 1 = true from rfl, show hS 1 = true from rfl, show hB 1 = true from rfl] at fp
    obtain ⟨m5, l5⟩ := n5 rfl
    obtain ⟨m6, l6⟩ := n6 rfl
    have s4 := sz r4 (fb true pe) (by omega) (by omega)
    have a4 := ap r4 (fb true pe)
    have z4 : (r4 ++ fb true pe).length = r4.length + (fb true pe).length := by simp
    generalize r4 ++ fb true pe = r5 at *
    have s5 := sz r5 (fb true se) (by omega) (by omega)
    have a5 := ap r5 (fb true se)
    have z5 : (r5 ++ fb true se).length = r5.length + (fb true se).length := by simp
    generalize r5 ++ fb true se = r6 at *
    have s6 := sz r6 (tb true b) (by omega) (by omega)
    have a6 := ap r6 (tb true b)
    generalize r6 ++ tb true b = r7 at *
    generalize fb true pe = u5 at *
    generalize fb true se = u6 at *
    generalize tb true b = u7 at *
    repeat (first | refine W_assoc ?_ | (show W _ (.seq (.region _ _) _) _ _; refine W_reg (by simp; with_reducible rfl) ?_) | (show R _ _ _ (_ :: _) _ _ _ _; refine R_op (by simp (maxSteps := 2000000) [vc, n1, n2, n3, n4, m5, m6, n7, s1, s2, s3, s4, s5, s6, a1, a2, a3, a4, a5, a6, fp]; with_reducible rfl) ?_) | (show R _ _ _ [] _ _ _ _; refine R_nil (by simp; with_reducible rfl) ?_) | (show W _ (.seq (.cond _ _ _) _) _ _; first | refine W_ct (by first | (simp [vc, n1, n2, n3, n4, m5, m6, n7, s1, s2, s3, s4, s5, s6, a1, a2, a3, a4, a5, a6, fp]; done) | fail) ?_ | refine W_cf (by first | (simp [vc, n1, n2, n3, n4, m5, m6, n7, s1, s2, s3, s4, s5, s6, a1, a2, a3, a4, a5, a6, fp]; done) | fail) ?_) | refine W_skip ?_ | refine W_bl (c := .seq _ _) ?_ | refine W_bl (c := .region _ _) ?_ | refine W_bl (c := .cond _ _ _) ?_ | refine W_bl (c := .block _ _) ?_ | refine W_rt ?_ | refine W_ex ?_ | refine W_end ?_ | refine W_tail (a := .region _ _) ?_ | refine W_tail (a := .cond _ _ _) ?_ | refine W_tail (a := .ret) ?_ | refine W_tail (a := .exit _) ?_ | refine W_tail (a := .block _ _) ?_ | refine QB_normal ?_ | refine QB_exit ?_ | refine QB_ret ?_ | refine QB_out (by decide) ?_ | refine QL_next ?_ | refine QL_exit ?_ | refine QL_ret ?_ | refine QL_out (by decide) ?_ | (show Fin _ _ .ret _; exact Fin_ret (by first | (simp [c36]; done) | (simp [c36]; with_reducible rfl))) | (show Fin _ _ .normal _; exact Fin_end (by first | (simp [c36]; done) | (simp [c36]; with_reducible rfl))))
  · simp only [show hP 2 = true from rfl, show hS 2 = true from rfl, show hB 2 = false from rfl, show ∀ l, tb false l = [] from fun _ => rfl, List.append_nil] at fp
    obtain ⟨m5, l5⟩ := n5 rfl
    obtain ⟨m6, l6⟩ := n6 rfl
    have s4 := sz r4 (fb true pe) (by omega) (by omega)
    have a4 := ap r4 (fb true pe)
    have z4 : (r4 ++ fb true pe).length = r4.length + (fb true pe).length := by simp
    generalize r4 ++ fb true pe = r5 at *
    have s5 := sz r5 (fb true se) (by omega) (by omega)
    have a5 := ap r5 (fb true se)
    generalize r5 ++ fb true se = r6 at *
    generalize fb true pe = u5 at *
    generalize fb true se = u6 at *
    repeat (first | refine W_assoc ?_ | (show W _ (.seq (.region _ _) _) _ _; refine W_reg (by simp; with_reducible rfl) ?_) | (show R _ _ _ (_ :: _) _ _ _ _; refine R_op (by simp (maxSteps := 2000000) [vc, n1, n2, n3, n4, m5, m6, n7, s1, s2, s3, s4, s5, a1, a2, a3, a4, a5, fp]; with_reducible rfl) ?_) | (show R _ _ _ [] _ _ _ _; refine R_nil (by simp; with_reducible rfl) ?_) | (show W _ (.seq (.cond _ _ _) _) _ _; first | refine W_ct (by first | (simp [vc, n1, n2, n3, n4, m5, m6, n7, s1, s2, s3, s4, s5, a1, a2, a3, a4, a5, fp]; done) | fail) ?_ | refine W_cf (by first | (simp [vc, n1, n2, n3, n4, m5, m6, n7, s1, s2, s3, s4, s5, a1, a2, a3, a4, a5, fp]; done) | fail) ?_) | refine W_skip ?_ | refine W_bl (c := .seq _ _) ?_ | refine W_bl (c := .region _ _) ?_ | refine W_bl (c := .cond _ _ _) ?_ | refine W_bl (c := .block _ _) ?_ | refine W_rt ?_ | refine W_ex ?_ | refine W_end ?_ | refine W_tail (a := .region _ _) ?_ | refine W_tail (a := .cond _ _ _) ?_ | refine W_tail (a := .ret) ?_ | refine W_tail (a := .exit _) ?_ | refine W_tail (a := .block _ _) ?_ | refine QB_normal ?_ | refine QB_exit ?_ | refine QB_ret ?_ | refine QB_out (by decide) ?_ | refine QL_next ?_ | refine QL_exit ?_ | refine QL_ret ?_ | refine QL_out (by decide) ?_ | (show Fin _ _ .ret _; exact Fin_ret (by first | (simp [c36]; done) | (simp [c36]; with_reducible rfl))) | (show Fin _ _ .normal _; exact Fin_end (by first | (simp [c36]; done) | (simp [c36]; with_reducible rfl))))
  · simp only [show hP 3 = true from rfl, show hS 3 = false from rfl, show hB 3 = false from rfl, show ∀ l, tb false l = [] from fun _ => rfl, show ∀ n, fb false n = [] from fun _ => rfl, List.append_nil] at fp
    obtain ⟨m5, l5⟩ := n5 rfl
    have s4 := sz r4 (fb true pe) (by omega) (by omega)
    have a4 := ap r4 (fb true pe)
    generalize r4 ++ fb true pe = r5 at *
    generalize fb true pe = u5 at *
    repeat (first | refine W_assoc ?_ | (show W _ (.seq (.region _ _) _) _ _; refine W_reg (by simp; with_reducible rfl) ?_) | (show R _ _ _ (_ :: _) _ _ _ _; refine R_op (by simp (maxSteps := 2000000) [vc, n1, n2, n3, n4, m5, n7, s1, s2, s3, s4, a1, a2, a3, a4, fp]; with_reducible rfl) ?_) | (show R _ _ _ [] _ _ _ _; refine R_nil (by simp; with_reducible rfl) ?_) | (show W _ (.seq (.cond _ _ _) _) _ _; first | refine W_ct (by first | (simp [vc, n1, n2, n3, n4, m5, n7, s1, s2, s3, s4, a1, a2, a3, a4, fp]; done) | fail) ?_ | refine W_cf (by first | (simp [vc, n1, n2, n3, n4, m5, n7, s1, s2, s3, s4, a1, a2, a3, a4, fp]; done) | fail) ?_) | refine W_skip ?_ | refine W_bl (c := .seq _ _) ?_ | refine W_bl (c := .region _ _) ?_ | refine W_bl (c := .cond _ _ _) ?_ | refine W_bl (c := .block _ _) ?_ | refine W_rt ?_ | refine W_ex ?_ | refine W_end ?_ | refine W_tail (a := .region _ _) ?_ | refine W_tail (a := .cond _ _ _) ?_ | refine W_tail (a := .ret) ?_ | refine W_tail (a := .exit _) ?_ | refine W_tail (a := .block _ _) ?_ | refine QB_normal ?_ | refine QB_exit ?_ | refine QB_ret ?_ | refine QB_out (by decide) ?_ | refine QL_next ?_ | refine QL_exit ?_ | refine QL_ret ?_ | refine QL_out (by decide) ?_ | (show Fin _ _ .ret _; exact Fin_ret (by first | (simp [c36]; done) | (simp [c36]; with_reducible rfl))) | (show Fin _ _ .normal _; exact Fin_end (by first | (simp [c36]; done) | (simp [c36]; with_reducible rfl))))
  · simp only [show hP 4 = false from rfl, show hS 4 = false from rfl, show hB 4 = true from rfl, show ∀ n, fb false n = [] from fun _ => rfl, List.append_nil] at fp
    have s4 := sz r4 (tb true b) (by omega) (by omega)
    have a4 := ap r4 (tb true b)
    generalize r4 ++ tb true b = r5 at *
    generalize tb true b = u5 at *
    repeat (first | refine W_assoc ?_ | (show W _ (.seq (.region _ _) _) _ _; refine W_reg (by simp; with_reducible rfl) ?_) | (show R _ _ _ (_ :: _) _ _ _ _; refine R_op (by simp (maxSteps := 2000000) [vc, n1, n2, n3, n4, n7, s1, s2, s3, s4, a1, a2, a3, a4, fp]; with_reducible rfl) ?_) | (show R _ _ _ [] _ _ _ _; refine R_nil (by simp; with_reducible rfl) ?_) | (show W _ (.seq (.cond _ _ _) _) _ _; first | refine W_ct (by first | (simp [vc, n1, n2, n3, n4, n7, s1, s2, s3, s4, a1, a2, a3, a4, fp]; done) | fail) ?_ | refine W_cf (by first | (simp [vc, n1, n2, n3, n4, n7, s1, s2, s3, s4, a1, a2, a3, a4, fp]; done) | fail) ?_) | refine W_skip ?_ | refine W_bl (c := .seq _ _) ?_ | refine W_bl (c := .region _ _) ?_ | refine W_bl (c := .cond _ _ _) ?_ | refine W_bl (c := .block _ _) ?_ | refine W_rt ?_ | refine W_ex ?_ | refine W_end ?_ | refine W_tail (a := .region _ _) ?_ | refine W_tail (a := .cond _ _ _) ?_ | refine W_tail (a := .ret) ?_ | refine W_tail (a := .exit _) ?_ | refine W_tail (a := .block _ _) ?_ | refine QB_normal ?_ | refine QB_exit ?_ | refine QB_ret ?_ | refine QB_out (by decide) ?_ | refine QL_next ?_ | refine QL_exit ?_ | refine QL_ret ?_ | refine QL_out (by decide) ?_ | (show Fin _ _ .ret _; exact Fin_ret (by first | (simp [c36]; done) | (simp [c36]; with_reducible rfl))) | (show Fin _ _ .normal _; exact Fin_end (by first | (simp [c36]; done) | (simp [c36]; with_reducible rfl))))

theorem V_works23 : FV (F T) 31 [] = some (.bool true) := by
  have hw : F T 31 [] [] = some (.bool true, []) := F_iff.2 ⟨60, by kernel_rfl⟩
  have h := FV_of hw
  simpa using h

theorem V_of (p : Pk) : FV (F T) 33 [.agg (pk p)] = some (.agg (pk p)) := by
  have hF : F T 33 [.agg (pk p)] [] = some (.agg (pk p), []) := by
    refine F_W T33 ?_
    simp only [c33, c33_b, Lift.start]
    simp only [pk]
    repeat (first | refine W_assoc ?_ | (show W _ (.seq (.region _ _) _) _ _; refine W_reg (by simp; with_reducible rfl) ?_) | (show R _ _ _ (_ :: _) _ _ _ _; refine R_op (by simp (maxSteps := 2000000); with_reducible rfl) ?_) | (show R _ _ _ [] _ _ _ _; refine R_nil (by simp; with_reducible rfl) ?_) | (show W _ (.seq (.cond _ _ _) _) _ _; first | refine W_ct (by first | (simp; done) | fail) ?_ | refine W_cf (by first | (simp; done) | fail) ?_) | refine W_skip ?_ | refine W_bl (c := .seq _ _) ?_ | refine W_bl (c := .region _ _) ?_ | refine W_bl (c := .cond _ _ _) ?_ | refine W_bl (c := .block _ _) ?_ | refine W_rt ?_ | refine W_ex ?_ | refine W_end ?_ | refine W_tail (a := .region _ _) ?_ | refine W_tail (a := .cond _ _ _) ?_ | refine W_tail (a := .ret) ?_ | refine W_tail (a := .exit _) ?_ | refine W_tail (a := .block _ _) ?_ | refine QB_normal ?_ | refine QB_exit ?_ | refine QB_ret ?_ | refine QB_out (by decide) ?_ | refine QL_next ?_ | refine QL_exit ?_ | refine QL_ret ?_ | refine QL_out (by decide) ?_ | (show Fin _ _ .ret _; exact Fin_ret (by first | (simp [c33]; done) | (simp [c33]; with_reducible rfl))) | (show Fin _ _ .normal _; exact Fin_end (by first | (simp [c33]; done) | (simp [c33]; with_reducible rfl))))
  simpa using FV_of hF

theorem packBytes (p : Pk) (hb : ∀ x ∈ p.body, 0 ≤ x ∧ x ≤ 255) : F T 6 [.agg (pk p)] [] = some (.bool true, []) := by
  have vo := V_of p
  have c1 := V_PCheck p
  have c2 := V_R23Check p
  have key : ∀ s, FV (F T) 35 [.agg (pk p)] = some (.str s) → FV (F T) 36 [.agg (pk p)] = some (.str s) → F T 6 [.agg (pk p)] [] = some (.bool true, []) := by
    intro s f1 f2
    obtain ⟨k, f, t, i, pe, se, b⟩ := p
    simp only [pk] at vo c1 c2 f1 f2 ⊢
    generalize chkP ⟨k, f, t, i, pe, se, b⟩ = cc at *
    refine F_W T6 ?_
    simp only [c6, c6_b, Lift.start]
    by_cases h1 : 1000 < b.length
    · have h1' : (1000 : Int) < b.length := by omega
      repeat (first | refine W_assoc ?_ | (show W _ (.seq (.region _ _) _) _ _; refine W_reg (by simp; with_reducible rfl) ?_) | (show R _ _ _ (_ :: _) _ _ _ _; refine R_op (by simp (maxSteps := 2000000) [h1, h1', V_works23]; with_reducible rfl) ?_) | (show R _ _ _ [] _ _ _ _; refine R_nil (by simp; with_reducible rfl) ?_) | (show W _ (.seq (.cond _ _ _) _) _ _; first | refine W_ct (by first | (simp [h1, h1', V_works23]; done) | fail) ?_ | refine W_cf (by first | (simp [h1, h1', V_works23]; done) | fail) ?_) | refine W_skip ?_ | refine W_bl (c := .seq _ _) ?_ | refine W_bl (c := .region _ _) ?_ | refine W_bl (c := .cond _ _ _) ?_ | refine W_bl (c := .block _ _) ?_ | refine W_rt ?_ | refine W_ex ?_ | refine W_end ?_ | refine W_tail (a := .region _ _) ?_ | refine W_tail (a := .cond _ _ _) ?_ | refine W_tail (a := .ret) ?_ | refine W_tail (a := .exit _) ?_ | refine W_tail (a := .block _ _) ?_ | refine QB_normal ?_ | refine QB_exit ?_ | refine QB_ret ?_ | refine QB_out (by decide) ?_ | refine QL_next ?_ | refine QL_exit ?_ | refine QL_ret ?_ | refine QL_out (by decide) ?_ | (show Fin _ _ .ret _; exact Fin_ret (by first | (simp [c6]; done) | (simp [c6]; with_reducible rfl))) | (show Fin _ _ .normal _; exact Fin_end (by first | (simp [c6]; done) | (simp [c6]; with_reducible rfl))))
    have h1' : ¬ (1000 : Int) < b.length := by omega
    repeat (first | refine W_assoc ?_ | (show W _ (.seq (.region _ _) _) _ _; refine W_reg (by simp; with_reducible rfl) ?_) | (show R _ _ _ (_ :: _) _ _ _ _; refine R_op (by simp (maxSteps := 2000000) [h1, h1', vo, c1, c2, f1, f2, V_works23]; with_reducible rfl) ?_) | (show R _ _ _ [] _ _ _ _; refine R_nil (by simp; with_reducible rfl) ?_) | (show W _ (.seq (.cond _ _ _) _) _ _; first | refine W_ct (by first | (simp [h1, h1', vo, c1, c2, f1, f2, V_works23]; done) | fail) ?_ | refine W_cf (by first | (simp [h1, h1', vo, c1, c2, f1, f2, V_works23]; done) | fail) ?_) | refine W_skip ?_ | refine W_bl (c := .seq _ _) ?_ | refine W_bl (c := .region _ _) ?_ | refine W_bl (c := .cond _ _ _) ?_ | refine W_bl (c := .block _ _) ?_ | refine W_rt ?_ | refine W_ex ?_ | refine W_end ?_ | refine W_tail (a := .region _ _) ?_ | refine W_tail (a := .cond _ _ _) ?_ | refine W_tail (a := .ret) ?_ | refine W_tail (a := .exit _) ?_ | refine W_tail (a := .block _ _) ?_ | refine QB_normal ?_ | refine QB_exit ?_ | refine QB_ret ?_ | refine QB_out (by decide) ?_ | refine QL_next ?_ | refine QL_exit ?_ | refine QL_ret ?_ | refine QL_out (by decide) ?_ | (show Fin _ _ .ret _; exact Fin_ret (by first | (simp [c6]; done) | (simp [c6]; with_reducible rfl))) | (show Fin _ _ .normal _; exact Fin_end (by first | (simp [c6]; done) | (simp [c6]; with_reducible rfl))))
  cases hc : chkP p with
  | true => exact key _ (V_PBytes p hc hb) (V_R23Bytes p hc hb)
  | false => exact key _ (V_PBytes0 p hc) (V_R23Bytes0 p hc)

end Go.Proofs.Ytnobgooojbppbac.Oct
