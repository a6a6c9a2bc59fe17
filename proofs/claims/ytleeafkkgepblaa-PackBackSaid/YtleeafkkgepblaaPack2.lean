/- Packets: their bytes. -/
import Derived.Test.YtleeafkkgepblaaPack
set_option linter.all false
set_option linter.unusedSimpArgs false
set_option maxRecDepth 100000
set_option maxHeartbeats 8000000
namespace Go.Proofs.Ytleeafkkgepblaa.Oct
open Go Go.RowKit Go.Proofs.Ytleeafkkgepblaa.Lift Go.Proofs.Ytleeafkkgepblaa.TPB Go.Proofs.Ytleeafkkgepblaa.Base Go.Proofs.Ytleeafkkgepblaa Go.Proofs.Ytleeafkkgepblaa.CrcC

theorem V_PBytes0 (p : Pk) (h : chkP p = false) : FV (F T) 7 [.agg (pk p)] = some (.str ⟨⟨[]⟩⟩) := by
  have vc := V_PCheck p
  rw [h] at vc
  simp only [pk] at vc ⊢
  refine FV_W T7 (r := ?r1) ?h1 ?v1
  case h1 =>
    simp only [c7, c7_b, Lift.start]
    repeat (first | refine W_assoc ?_ | (show W _ (.seq (.region _ _) _) _ _; refine W_reg (by simp; with_reducible rfl) ?_) | (show R _ _ _ (_ :: _) _ _ _ _; refine R_op (by simp (maxSteps := 2000000) [vc]; with_reducible rfl) ?_) | (show R _ _ _ [] _ _ _ _; refine R_nil (by simp; with_reducible rfl) ?_) | (show W _ (.seq (.cond _ _ _) _) _ _; first | refine W_ct (by first | (simp [vc]; done) | fail) ?_ | refine W_cf (by first | (simp [vc]; done) | fail) ?_) | refine W_skip ?_ | refine W_bl (c := .seq _ _) ?_ | refine W_bl (c := .region _ _) ?_ | refine W_bl (c := .cond _ _ _) ?_ | refine W_bl (c := .block _ _) ?_ | refine W_rt ?_ | refine W_ex ?_ | refine W_end ?_ | refine W_tail (a := .region _ _) ?_ | refine W_tail (a := .cond _ _ _) ?_ | refine W_tail (a := .ret) ?_ | refine W_tail (a := .exit _) ?_ | refine W_tail (a := .block _ _) ?_ | refine QB_normal ?_ | refine QB_exit ?_ | refine QB_ret ?_ | refine QB_out (by decide) ?_ | refine QL_next ?_ | refine QL_exit ?_ | refine QL_ret ?_ | refine QL_out (by decide) ?_ | (show Fin _ _ .ret _; exact Fin_ret (by first | (simp [c7]; done) | (simp [c7]; with_reducible rfl))) | (show Fin _ _ .normal _; exact Fin_end (by first | (simp [c7]; done) | (simp [c7]; with_reducible rfl))))
  case v1 => simp

theorem putB_bs (r : List Int) (h : r.length ≤ 4096) (hr : ∀ x ∈ r, 0 ≤ x ∧ x ≤ 255) : putB (bs r) = frameB r := by
  unfold putB
  rw [bs_size, if_neg (by omega), sb_bs r hr]

/-- What is put first. -/
def headP (k f t i : Int) : List Int := numB k.toNat ++ (numB f.toNat ++ (numB t.toNat ++ numB i.toNat))

theorem V_PBytes (p : Pk) (h : chkP p = true) (hb : ∀ x ∈ p.body, 0 ≤ x ∧ x ≤ 255) : FV (F T) 7 [.agg (pk p)] = some (.str (bs (frameB (bytesP p)))) := by
  have vc := V_PCheck p
  rw [h] at vc
  have hbl := (bytesP_len p h).1
  have hbr := bytesP_range p h hb
  obtain ⟨k, f, t, i, pe, se, b⟩ := p
  simp only [chkP, Bool.and_eq_true, decide_eq_true_eq, Bool.not_eq_true', decide_eq_false_iff_not] at h
  obtain ⟨h1, h2, h3, h4, h5, h6, h7, h8, h9, h10, h11, h12⟩ := h
  have h8' : 1 ≤ i ∧ i ≤ 72057594037927935 := by simpa [inF] using h8
  have cl : ∀ n : Int, 0 ≤ n → n ≤ 72057594037927935 → clampN n = n.toNat := fun n a b => by simp only [clampN]; omega
  have g1 := small_len k (by omega) (by omega)
  have g2 := small_len f h3 h4
  have g3 := small_len t h5 h6
  have g4 := numB_len i.toNat (by omega)
  have v1 := V_hasPeer k
  have v2 := V_hasSeq k
  have v3 := V_hasBody k
  have n1 := F_Num 1 false [] k (.inl rfl) (by simp)
  rw [cl k (by omega) (by omega), List.nil_append] at n1
  have n2 := F_Num 1 false (numB k.toNat) f (.inl rfl) (by omega)
  rw [cl f (by omega) (by omega)] at n2
  have n3 := F_Num 1 false (numB k.toNat ++ numB f.toNat) t (.inl rfl) (by simp; omega)
  rw [cl t (by omega) (by omega)] at n3
  have n4 := F_Num 1 false (numB k.toNat ++ numB f.toNat ++ numB t.toNat) i (.inl rfl) (by simp; omega)
  rw [cl i (by omega) h8'.2] at n4
  have hR : numB k.toNat ++ numB f.toNat ++ numB t.toNat ++ numB i.toNat = headP k f t i := by simp [headP]
  rw [hR] at n4
  have hRl : (headP k f t i).length ≤ 11 := by unfold headP; simp only [List.length_append]; omega
  have hby : ∀ x, bytesP ⟨k, f, t, i, pe, se, b⟩ = x → x = headP k f t i ++ (fb (hP k) pe ++ (fb (hS k) se ++ tb (hB k) b)) := fun x hx => by rw [← hx]; simp [bytesP, headP]
  have hby := hby _ rfl
  have n5 : hP k = true → F T 28 [.ro 1 (enc (eInt .u8) (headP k f t i)) false, .int .i64 pe] [] = some (.own 0 0 (headP k f t i ++ fb true pe).length, [⟨5, 1, false, enc (eInt .u8) (headP k f t i ++ fb true pe), 0⟩]) ∧ (fb true pe).length ≤ 8 := by
    intro hq
    rw [hq] at h9
    simp [inF] at h9
    have := F_Num 1 false (headP k f t i) pe (.inl rfl) (by omega)
    rw [cl pe (by omega) h9.2] at this
    exact ⟨this, fb_len _ _ (by omega)⟩
  have n6 : hS k = true → ∀ r : List Int, r.length ≤ 100 → F T 28 [.ro 1 (enc (eInt .u8) r) false, .int .i64 se] [] = some (.own 0 0 (r ++ fb true se).length, [⟨5, 1, false, enc (eInt .u8) (r ++ fb true se), 0⟩]) ∧ (fb true se).length ≤ 8 := by
    intro hq r hr
    rw [hq] at h10
    simp [inF] at h10
    have := F_Num 1 false r se (.inl rfl) (by omega)
    rw [cl se (by omega) h10.2] at this
    exact ⟨this, fb_len _ _ (by omega)⟩
  have n7 : ∀ r : List Int, r.length ≤ 100 → F T 29 [.ro 1 (enc (eInt .u8) r) false, .str (bs b)] [] = some (.own 0 0 (r ++ tb true b).length, [⟨5, 1, false, enc (eInt .u8) (r ++ tb true b), 0⟩]) := by
    intro r hr
    have := F_Text r (bs b) (by omega) (by rw [bs_size]; omega)
    rw [bs_size, sb_bs b hb, List.append_assoc] at this
    exact this
  have fp : FV (F T) 30 [.ro 1 [] false, .str (bs (bytesP ⟨k, f, t, i, pe, se, b⟩))] = some (.ro 1 (enc (eInt .u8) (frameB (bytesP ⟨k, f, t, i, pe, se, b⟩))) false) := by
    have := FV_of (F_Put _ [] (.inl rfl) (by simp) (bs (bytesP ⟨k, f, t, i, pe, se, b⟩)))
    rw [putB_bs _ (by omega) hbr, List.nil_append] at this
    simpa using this
  have key : ∀ a, F T 7 [.agg (pk ⟨k, f, t, i, pe, se, b⟩)] [] = some (.str a, []) → FV (F T) 7 [.agg (pk ⟨k, f, t, i, pe, se, b⟩)] = some (.str a) := fun a h => by simpa using FV_of h
  refine key _ (F_W T7 ?_)
  generalize frameB (bytesP ⟨k, f, t, i, pe, se, b⟩) = FR at *
  simp only [pk] at vc ⊢
  have tail : ∀ st : ASt, canon [1, 3, 17, 18, 19] st = ⟨[.top, .ref 0 0 0, .top, .own 1 0 (headP k f t i).length, .top, .top, .top, .top, .top, .top, .top, .top, .top, .top, .top, .top, .top, .own 2 0 4, .int .i64 4, .int .i64 4, .top, .top, .top, .top, .top, .top, .top, .top, .top, .top, .top, .top, .top, .top, .top, .top, .top, .top, .top, .top, .top, .top, .top, .top, .top, .top, .top, .top, .top, .top, .top, .top], [(0, ⟨27, 7, true, [[.int .i64 k, .int .i64 f, .int .i64 t, .int .i64 i, .int .i64 pe, .int .i64 se, .str (bs b)]], 0⟩), (1, ⟨5, 1, false, enc (eInt .u8) (headP k f t i), 0⟩), (2, ⟨3, 1, false, [.int .i64 k] :: [.int .i64 f] :: [.int .i64 t] :: enc (eInt .i64) [i], 0⟩)], 3, 0⟩ →
      W T c7_k0 st (Lift.Fin c7 (.str (bs FR), [])) := by
    intro st hc
    have hk : k = 1 ∨ k = 2 ∨ k = 3 ∨ k = 4 := by omega
    generalize headP k f t i = rh at *
    unfold c7_k0
    refine W_round hc ?_
    unfold c7_l0
    rcases hk with rfl | rfl | rfl | rfl
    · simp only [show hP 1 = true from rfl, show hS 1 = true from rfl, show hB 1 = true from rfl] at v1 v2 v3 hby
      try simp only [show ∀ n, fb false n = [] from fun _ => rfl, show ∀ l, tb false l = [] from fun _ => rfl, List.append_nil, List.nil_append] at hby
      obtain ⟨a1, l1⟩ := n5 rfl
      have z1 : (rh ++ fb true pe).length = rh.length + (fb true pe).length := by simp
      obtain ⟨a2, l2⟩ := n6 rfl (rh ++ fb true pe) (by omega)
      have z2 : (rh ++ fb true pe ++ fb true se).length = rh.length + (fb true pe).length + (fb true se).length := by simp; omega
      have a3 := n7 (rh ++ fb true pe ++ fb true se) (by omega)
      have hby' : bytesP ⟨1, f, t, i, pe, se, b⟩ = rh ++ fb true pe ++ fb true se ++ tb true b := by rw [hby]; simp
      rw [hby'] at fp
      generalize rh ++ fb true pe = r1 at *
      generalize r1 ++ fb true se = r2 at *
      generalize r2 ++ tb true b = r3 at *
      repeat (first | refine W_assoc ?_ | (show W _ (.seq (.region _ _) _) _ _; refine W_reg (by simp; with_reducible rfl) ?_) | (show R _ _ _ (_ :: _) _ _ _ _; refine R_op (by simp (maxSteps := 2000000) [v1, v2, v3, a1, a2, a3, fp]; with_reducible rfl) ?_) | (show R _ _ _ [] _ _ _ _; refine R_nil (by simp; with_reducible rfl) ?_) | (show W _ (.seq (.cond _ _ _) _) _ _; first | refine W_ct (by first | (simp [v1, v2, v3, a1, a2, a3, fp]; done) | fail) ?_ | refine W_cf (by first | (simp [v1, v2, v3, a1, a2, a3, fp]; done) | fail) ?_) | refine W_skip ?_ | refine W_bl (c := .seq _ _) ?_ | refine W_bl (c := .region _ _) ?_ | refine W_bl (c := .cond _ _ _) ?_ | refine W_bl (c := .block _ _) ?_ | refine W_rt ?_ | refine W_ex ?_ | refine W_end ?_ | refine W_tail (a := .region _ _) ?_ | refine W_tail (a := .cond _ _ _) ?_ | refine W_tail (a := .ret) ?_ | refine W_tail (a := .exit _) ?_ | refine W_tail (a := .block _ _) ?_ | refine QB_normal ?_ | refine QB_exit ?_ | refine QB_ret ?_ | refine QB_out (by decide) ?_ | refine QL_next ?_ | refine QL_exit ?_ | refine QL_ret ?_ | refine QL_out (by decide) ?_ | (show Fin _ _ .ret _; exact Fin_ret (by first | (simp [c7]; done) | (simp [c7]; with_reducible rfl))) | (show Fin _ _ .normal _; exact Fin_end (by first | (simp [c7]; done) | (simp [c7]; with_reducible rfl))))
    · simp only [show hP 2 = true from rfl, show hS 2 = true from rfl, show hB 2 = false from rfl] at v1 v2 v3 hby
      try simp only [show ∀ n, fb false n = [] from fun _ => rfl, show ∀ l, tb false l = [] from fun _ => rfl, List.append_nil, List.nil_append] at hby
      obtain ⟨a1, l1⟩ := n5 rfl
      have z1 : (rh ++ fb true pe).length = rh.length + (fb true pe).length := by simp
      obtain ⟨a2, l2⟩ := n6 rfl (rh ++ fb true pe) (by omega)
      have z2 : (rh ++ fb true pe ++ fb true se).length = rh.length + (fb true pe).length + (fb true se).length := by simp; omega
      have hby' : bytesP ⟨2, f, t, i, pe, se, b⟩ = rh ++ fb true pe ++ fb true se := by rw [hby]; simp
      rw [hby'] at fp
      generalize rh ++ fb true pe = r1 at *
      generalize r1 ++ fb true se = r2 at *
      repeat (first | refine W_assoc ?_ | (show W _ (.seq (.region _ _) _) _ _; refine W_reg (by simp; with_reducible rfl) ?_) | (show R _ _ _ (_ :: _) _ _ _ _; refine R_op (by simp (maxSteps := 2000000) [v1, v2, v3, a1, a2, fp]; with_reducible rfl) ?_) | (show R _ _ _ [] _ _ _ _; refine R_nil (by simp; with_reducible rfl) ?_) | (show W _ (.seq (.cond _ _ _) _) _ _; first | refine W_ct (by first | (simp [v1, v2, v3, a1, a2, fp]; done) | fail) ?_ | refine W_cf (by first | (simp [v1, v2, v3, a1, a2, fp]; done) | fail) ?_) | refine W_skip ?_ | refine W_bl (c := .seq _ _) ?_ | refine W_bl (c := .region _ _) ?_ | refine W_bl (c := .cond _ _ _) ?_ | refine W_bl (c := .block _ _) ?_ | refine W_rt ?_ | refine W_ex ?_ | refine W_end ?_ | refine W_tail (a := .region _ _) ?_ | refine W_tail (a := .cond _ _ _) ?_ | refine W_tail (a := .ret) ?_ | refine W_tail (a := .exit _) ?_ | refine W_tail (a := .block _ _) ?_ | refine QB_normal ?_ | refine QB_exit ?_ | refine QB_ret ?_ | refine QB_out (by decide) ?_ | refine QL_next ?_ | refine QL_exit ?_ | refine QL_ret ?_ | refine QL_out (by decide) ?_ | (show Fin _ _ .ret _; exact Fin_ret (by first | (simp [c7]; done) | (simp [c7]; with_reducible rfl))) | (show Fin _ _ .normal _; exact Fin_end (by first | (simp [c7]; done) | (simp [c7]; with_reducible rfl))))
    · simp only [show hP 3 = true from rfl, show hS 3 = false from rfl, show hB 3 = false from rfl] at v1 v2 v3 hby
      try simp only [show ∀ n, fb false n = [] from fun _ => rfl, show ∀ l, tb false l = [] from fun _ => rfl, List.append_nil, List.nil_append] at hby
      obtain ⟨a1, l1⟩ := n5 rfl
      have z1 : (rh ++ fb true pe).length = rh.length + (fb true pe).length := by simp
      have hby' : bytesP ⟨3, f, t, i, pe, se, b⟩ = rh ++ fb true pe := by rw [hby]
      rw [hby'] at fp
      generalize rh ++ fb true pe = r1 at *
      repeat (first | refine W_assoc ?_ | (show W _ (.seq (.region _ _) _) _ _; refine W_reg (by simp; with_reducible rfl) ?_) | (show R _ _ _ (_ :: _) _ _ _ _; refine R_op (by simp (maxSteps := 2000000) [v1, v2, v3, a1, fp]; with_reducible rfl) ?_) | (show R _ _ _ [] _ _ _ _; refine R_nil (by simp; with_reducible rfl) ?_) | (show W _ (.seq (.cond _ _ _) _) _ _; first | refine W_ct (by first | (simp [v1, v2, v3, a1, fp]; done) | fail) ?_ | refine W_cf (by first | (simp [v1, v2, v3, a1, fp]; done) | fail) ?_) | refine W_skip ?_ | refine W_bl (c := .seq _ _) ?_ | refine W_bl (c := .region _ _) ?_ | refine W_bl (c := .cond _ _ _) ?_ | refine W_bl (c := .block _ _) ?_ | refine W_rt ?_ | refine W_ex ?_ | refine W_end ?_ | refine W_tail (a := .region _ _) ?_ | refine W_tail (a := .cond _ _ _) ?_ | refine W_tail (a := .ret) ?_ | refine W_tail (a := .exit _) ?_ | refine W_tail (a := .block _ _) ?_ | refine QB_normal ?_ | refine QB_exit ?_ | refine QB_ret ?_ | refine QB_out (by decide) ?_ | refine QL_next ?_ | refine QL_exit ?_ | refine QL_ret ?_ | refine QL_out (by decide) ?_ | (show Fin _ _ .ret _; exact Fin_ret (by first | (simp [c7]; done) | (simp [c7]; with_reducible rfl))) | (show Fin _ _ .normal _; exact Fin_end (by first | (simp [c7]; done) | (simp [c7]; with_reducible rfl))))
    · simp only [show hP 4 = false from rfl, show hS 4 = false from rfl, show hB 4 = true from rfl] at v1 v2 v3 hby
      try simp only [show ∀ n, fb false n = [] from fun _ => rfl, show ∀ l, tb false l = [] from fun _ => rfl, List.append_nil, List.nil_append] at hby
      have a3 := n7 (rh) (by omega)
      have hby' : bytesP ⟨4, f, t, i, pe, se, b⟩ = rh ++ tb true b := by rw [hby]
      rw [hby'] at fp
      generalize rh ++ tb true b = r3 at *
      repeat (first | refine W_assoc ?_ | (show W _ (.seq (.region _ _) _) _ _; refine W_reg (by simp; with_reducible rfl) ?_) | (show R _ _ _ (_ :: _) _ _ _ _; refine R_op (by simp (maxSteps := 2000000) [v1, v2, v3, a3, fp]; with_reducible rfl) ?_) | (show R _ _ _ [] _ _ _ _; refine R_nil (by simp; with_reducible rfl) ?_) | (show W _ (.seq (.cond _ _ _) _) _ _; first | refine W_ct (by first | (simp [v1, v2, v3, a3, fp]; done) | fail) ?_ | refine W_cf (by first | (simp [v1, v2, v3, a3, fp]; done) | fail) ?_) | refine W_skip ?_ | refine W_bl (c := .seq _ _) ?_ | refine W_bl (c := .region _ _) ?_ | refine W_bl (c := .cond _ _ _) ?_ | refine W_bl (c := .block _ _) ?_ | refine W_rt ?_ | refine W_ex ?_ | refine W_end ?_ | refine W_tail (a := .region _ _) ?_ | refine W_tail (a := .cond _ _ _) ?_ | refine W_tail (a := .ret) ?_ | refine W_tail (a := .exit _) ?_ | refine W_tail (a := .block _ _) ?_ | refine QB_normal ?_ | refine QB_exit ?_ | refine QB_ret ?_ | refine QB_out (by decide) ?_ | refine QL_next ?_ | refine QL_exit ?_ | refine QL_ret ?_ | refine QL_out (by decide) ?_ | (show Fin _ _ .ret _; exact Fin_ret (by first | (simp [c7]; done) | (simp [c7]; with_reducible rfl))) | (show Fin _ _ .normal _; exact Fin_end (by first | (simp [c7]; done) | (simp [c7]; with_reducible rfl))))
  simp only [enc_nil] at n1
  simp only [c7, c7_b, Lift.start]
  repeat (first | refine W_assoc ?_ | (show W _ (.seq (.region _ _) _) _ _; refine W_reg (by simp; with_reducible rfl) ?_) | (show R _ _ _ (_ :: _) _ _ _ _; refine R_op (by simp (maxSteps := 2000000) [vc]; with_reducible rfl) ?_) | (show R _ _ _ [] _ _ _ _; refine R_nil (by simp; with_reducible rfl) ?_) | (show W _ (.seq (.cond _ _ _) _) _ _; first | refine W_ct (by first | (simp [vc]; done) | fail) ?_ | refine W_cf (by first | (simp [vc]; done) | fail) ?_) | refine W_skip ?_ | refine W_bl (c := .seq _ _) ?_ | refine W_bl (c := .region _ _) ?_ | refine W_bl (c := .cond _ _ _) ?_ | refine W_bl (c := .block _ _) ?_ | refine W_rt ?_ | refine W_ex ?_ | refine W_end ?_ | refine W_tail (a := .region _ _) ?_ | refine W_tail (a := .cond _ _ _) ?_ | refine W_tail (a := .ret) ?_ | refine W_tail (a := .exit _) ?_ | refine W_tail (a := .block _ _) ?_ | refine QB_normal ?_ | refine QB_exit ?_ | refine QB_ret ?_ | refine QB_out (by decide) ?_ | refine QL_next ?_ | refine QL_exit ?_ | refine QL_ret ?_ | refine QL_out (by decide) ?_ | (show Fin _ _ .ret _; exact Fin_ret (by first | (simp; done) | (simp; with_reducible rfl))) | (show Fin _ _ .normal _; exact Fin_end (by first | (simp; done) | (simp; with_reducible rfl))))
  have w1 : ∀ x : Int, 0 ≤ x → x ≤ 10 → IntKind.i64.wrap x = x := fun x a b => wrap_id _ (by omega) (by omega)
  have w1' : IntKind.i64.wrap 1 = 1 := rfl
  have w2' : IntKind.i64.wrap 2 = 2 := rfl
  have w3' : IntKind.i64.wrap 3 = 3 := rfl
  have w4' : IntKind.i64.wrap 4 = 4 := rfl
  generalize headP k f t i = rh at *
  generalize numB k.toNat ++ numB f.toNat ++ numB t.toNat = r3 at *
  generalize numB k.toNat ++ numB f.toNat = r2 at *
  generalize numB k.toNat = r1 at *
  refine W_round (st1 := ⟨[.top, .ref 0 0 0, .top, .own 1 0 0, .top, .top, .top, .top, .top, .top, .top, .top, .top, .top, .top, .top, .top, .own 2 0 4, .int .i64 4, .int .i64 0, .top, .top, .top, .top, .top, .top, .top, .top, .top, .top, .top, .top, .top, .top, .top, .top, .top, .top, .top, .top, .top, .top, .top, .top, .top, .top, .top, .top, .top, .top, .top, .top], [(0, ⟨27, 7, true, [[.int .i64 k, .int .i64 f, .int .i64 t, .int .i64 i, .int .i64 pe, .int .i64 se, .str (bs b)]], 0⟩), (1, ⟨5, 1, false, [], 0⟩), (2, ⟨3, 1, false, [.int .i64 k] :: [.int .i64 f] :: [.int .i64 t] :: enc (eInt .i64) [i], 0⟩)], 3, 0⟩) (by simp) ?_
  try unfold c7_l0
  repeat (first | refine W_assoc ?_ | (show W _ (.seq (.region _ _) _) _ _; refine W_reg (by simp; with_reducible rfl) ?_) | (show R _ _ _ (_ :: _) _ _ _ _; refine R_op (by simp (maxSteps := 2000000) [n1, w1', w2', w3', w4']; with_reducible rfl) ?_) | (show R _ _ _ [] _ _ _ _; refine R_nil (by simp; with_reducible rfl) ?_) | (show W _ (.seq (.cond _ _ _) _) _ _; first | refine W_ct (by first | (simp [n1, w1', w2', w3', w4']; done) | fail) ?_ | refine W_cf (by first | (simp [n1, w1', w2', w3', w4']; done) | fail) ?_) | refine W_skip ?_ | refine W_bl (c := .seq _ _) ?_ | refine W_bl (c := .region _ _) ?_ | refine W_bl (c := .cond _ _ _) ?_ | refine W_bl (c := .block _ _) ?_ | refine W_rt ?_ | refine W_ex ?_ | refine W_end ?_ | refine W_tail (a := .region _ _) ?_ | refine W_tail (a := .cond _ _ _) ?_ | refine W_tail (a := .ret) ?_ | refine W_tail (a := .exit _) ?_ | refine W_tail (a := .block _ _) ?_ | refine QB_normal ?_ | refine QB_exit ?_ | refine QB_ret ?_ | refine QB_out (by decide) ?_ | refine QL_next ?_ | refine QL_exit ?_ | refine QL_ret ?_ | refine QL_out (by decide) ?_ | (show Fin _ _ .ret _; exact Fin_ret (by first | (simp; done) | (simp; with_reducible rfl))) | (show Fin _ _ .normal _; exact Fin_end (by first | (simp; done) | (simp; with_reducible rfl))))
  refine W_round (st1 := ⟨[.top, .ref 0 0 0, .top, .own 1 0 r1.length, .top, .top, .top, .top, .top, .top, .top, .top, .top, .top, .top, .top, .top, .own 2 0 4, .int .i64 4, .int .i64 1, .top, .top, .top, .top, .top, .top, .top, .top, .top, .top, .top, .top, .top, .top, .top, .top, .top, .top, .top, .top, .top, .top, .top, .top, .top, .top, .top, .top, .top, .top, .top, .top], [(0, ⟨27, 7, true, [[.int .i64 k, .int .i64 f, .int .i64 t, .int .i64 i, .int .i64 pe, .int .i64 se, .str (bs b)]], 0⟩), (1, ⟨5, 1, false, enc (eInt .u8) r1, 0⟩), (2, ⟨3, 1, false, [.int .i64 k] :: [.int .i64 f] :: [.int .i64 t] :: enc (eInt .i64) [i], 0⟩)], 3, 0⟩) (by simp) ?_
  try unfold c7_l0
  repeat (first | refine W_assoc ?_ | (show W _ (.seq (.region _ _) _) _ _; refine W_reg (by simp; with_reducible rfl) ?_) | (show R _ _ _ (_ :: _) _ _ _ _; refine R_op (by simp (maxSteps := 2000000) [n2, w1', w2', w3', w4']; with_reducible rfl) ?_) | (show R _ _ _ [] _ _ _ _; refine R_nil (by simp; with_reducible rfl) ?_) | (show W _ (.seq (.cond _ _ _) _) _ _; first | refine W_ct (by first | (simp [n2, w1', w2', w3', w4']; done) | fail) ?_ | refine W_cf (by first | (simp [n2, w1', w2', w3', w4']; done) | fail) ?_) | refine W_skip ?_ | refine W_bl (c := .seq _ _) ?_ | refine W_bl (c := .region _ _) ?_ | refine W_bl (c := .cond _ _ _) ?_ | refine W_bl (c := .block _ _) ?_ | refine W_rt ?_ | refine W_ex ?_ | refine W_end ?_ | refine W_tail (a := .region _ _) ?_ | refine W_tail (a := .cond _ _ _) ?_ | refine W_tail (a := .ret) ?_ | refine W_tail (a := .exit _) ?_ | refine W_tail (a := .block _ _) ?_ | refine QB_normal ?_ | refine QB_exit ?_ | refine QB_ret ?_ | refine QB_out (by decide) ?_ | refine QL_next ?_ | refine QL_exit ?_ | refine QL_ret ?_ | refine QL_out (by decide) ?_ | (show Fin _ _ .ret _; exact Fin_ret (by first | (simp; done) | (simp; with_reducible rfl))) | (show Fin _ _ .normal _; exact Fin_end (by first | (simp; done) | (simp; with_reducible rfl))))
  refine W_round (st1 := ⟨[.top, .ref 0 0 0, .top, .own 1 0 r2.length, .top, .top, .top, .top, .top, .top, .top, .top, .top, .top, .top, .top, .top, .own 2 0 4, .int .i64 4, .int .i64 2, .top, .top, .top, .top, .top, .top, .top, .top, .top, .top, .top, .top, .top, .top, .top, .top, .top, .top, .top, .top, .top, .top, .top, .top, .top, .top, .top, .top, .top, .top, .top, .top], [(0, ⟨27, 7, true, [[.int .i64 k, .int .i64 f, .int .i64 t, .int .i64 i, .int .i64 pe, .int .i64 se, .str (bs b)]], 0⟩), (1, ⟨5, 1, false, enc (eInt .u8) r2, 0⟩), (2, ⟨3, 1, false, [.int .i64 k] :: [.int .i64 f] :: [.int .i64 t] :: enc (eInt .i64) [i], 0⟩)], 3, 0⟩) (by simp) ?_
  try unfold c7_l0
  repeat (first | refine W_assoc ?_ | (show W _ (.seq (.region _ _) _) _ _; refine W_reg (by simp; with_reducible rfl) ?_) | (show R _ _ _ (_ :: _) _ _ _ _; refine R_op (by simp (maxSteps := 2000000) [n3, w1', w2', w3', w4']; with_reducible rfl) ?_) | (show R _ _ _ [] _ _ _ _; refine R_nil (by simp; with_reducible rfl) ?_) | (show W _ (.seq (.cond _ _ _) _) _ _; first | refine W_ct (by first | (simp [n3, w1', w2', w3', w4']; done) | fail) ?_ | refine W_cf (by first | (simp [n3, w1', w2', w3', w4']; done) | fail) ?_) | refine W_skip ?_ | refine W_bl (c := .seq _ _) ?_ | refine W_bl (c := .region _ _) ?_ | refine W_bl (c := .cond _ _ _) ?_ | refine W_bl (c := .block _ _) ?_ | refine W_rt ?_ | refine W_ex ?_ | refine W_end ?_ | refine W_tail (a := .region _ _) ?_ | refine W_tail (a := .cond _ _ _) ?_ | refine W_tail (a := .ret) ?_ | refine W_tail (a := .exit _) ?_ | refine W_tail (a := .block _ _) ?_ | refine QB_normal ?_ | refine QB_exit ?_ | refine QB_ret ?_ | refine QB_out (by decide) ?_ | refine QL_next ?_ | refine QL_exit ?_ | refine QL_ret ?_ | refine QL_out (by decide) ?_ | (show Fin _ _ .ret _; exact Fin_ret (by first | (simp; done) | (simp; with_reducible rfl))) | (show Fin _ _ .normal _; exact Fin_end (by first | (simp; done) | (simp; with_reducible rfl))))
  refine W_round (st1 := ⟨[.top, .ref 0 0 0, .top, .own 1 0 r3.length, .top, .top, .top, .top, .top, .top, .top, .top, .top, .top, .top, .top, .top, .own 2 0 4, .int .i64 4, .int .i64 3, .top, .top, .top, .top, .top, .top, .top, .top, .top, .top, .top, .top, .top, .top, .top, .top, .top, .top, .top, .top, .top, .top, .top, .top, .top, .top, .top, .top, .top, .top, .top, .top], [(0, ⟨27, 7, true, [[.int .i64 k, .int .i64 f, .int .i64 t, .int .i64 i, .int .i64 pe, .int .i64 se, .str (bs b)]], 0⟩), (1, ⟨5, 1, false, enc (eInt .u8) r3, 0⟩), (2, ⟨3, 1, false, [.int .i64 k] :: [.int .i64 f] :: [.int .i64 t] :: enc (eInt .i64) [i], 0⟩)], 3, 0⟩) (by simp) ?_
  try unfold c7_l0
  repeat (first | refine W_assoc ?_ | (show W _ (.seq (.region _ _) _) _ _; refine W_reg (by simp; with_reducible rfl) ?_) | (show R _ _ _ (_ :: _) _ _ _ _; refine R_op (by simp (maxSteps := 2000000) [n4, w1', w2', w3', w4']; with_reducible rfl) ?_) | (show R _ _ _ [] _ _ _ _; refine R_nil (by simp; with_reducible rfl) ?_) | (show W _ (.seq (.cond _ _ _) _) _ _; first | refine W_ct (by first | (simp [n4, w1', w2', w3', w4']; done) | fail) ?_ | refine W_cf (by first | (simp [n4, w1', w2', w3', w4']; done) | fail) ?_) | refine W_skip ?_ | refine W_bl (c := .seq _ _) ?_ | refine W_bl (c := .region _ _) ?_ | refine W_bl (c := .cond _ _ _) ?_ | refine W_bl (c := .block _ _) ?_ | refine W_rt ?_ | refine W_ex ?_ | refine W_end ?_ | refine W_tail (a := .region _ _) ?_ | refine W_tail (a := .cond _ _ _) ?_ | refine W_tail (a := .ret) ?_ | refine W_tail (a := .exit _) ?_ | refine W_tail (a := .block _ _) ?_ | refine QB_normal ?_ | refine QB_exit ?_ | refine QB_ret ?_ | refine QB_out (by decide) ?_ | refine QL_next ?_ | refine QL_exit ?_ | refine QL_ret ?_ | refine QL_out (by decide) ?_ | (show Fin _ _ .ret _; exact Fin_ret (by first | (simp; done) | (simp; with_reducible rfl))) | (show Fin _ _ .normal _; exact Fin_end (by first | (simp; done) | (simp; with_reducible rfl))))
  refine tail _ ?_
  simp; try rfl

end Go.Proofs.Ytleeafkkgepblaa.Oct
