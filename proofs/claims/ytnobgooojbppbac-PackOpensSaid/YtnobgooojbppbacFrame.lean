/- Frames: what the program's and the document's functions come to. -/
import Derived.Test.YtnobgooojbppbacFramePure
set_option linter.all false
set_option linter.unusedSimpArgs false
set_option maxRecDepth 100000
set_option maxHeartbeats 8000000
namespace Go.Proofs.Ytnobgooojbppbac.Oct
open Go Go.RowKit Go.Proofs.Ytnobgooojbppbac.Lift Go.Proofs.Ytnobgooojbppbac.TOC Go.Proofs.Ytnobgooojbppbac.Base Go.Proofs.Ytnobgooojbppbac Go.Proofs.Ytnobgooojbppbac.CrcC

theorem sb_range (s : ByteArray) : ∀ a ∈ sb s, 0 ≤ a ∧ a ≤ 255 := by
  intro a ha
  obtain ⟨b, _, rfl⟩ := List.mem_map.1 ha
  have := b.toNat_lt
  omega
theorem sb_bs (x : List Int) (h : ∀ a ∈ x, 0 ≤ a ∧ a ≤ 255) : sb (bs x) = x := by
  unfold sb
  rw [bs_data, List.map_map]
  conv => rhs; rw [← List.map_id x]
  exact List.map_congr_left fun a ha => u8_back a (h a ha)
theorem bs_inj {a b : List Int} (ha : ∀ x ∈ a, 0 ≤ x ∧ x ≤ 255) (hb : ∀ x ∈ b, 0 ≤ x ∧ x ≤ 255) (h : bs a = bs b) : a = b := by
  rw [← sb_bs a ha, h, sb_bs b hb]

/-- What is put behind bytes. -/
def putB (s : ByteArray) : List Int := if 4096 < s.size then [] else frameB (sb s)

theorem putB_len (s : ByteArray) : (putB s).length ≤ 4108 := by
  unfold putB
  split
  · simp
  · have := textB_len (sb s) (by rw [sb_length]; omega)
    rw [frameB_len]
    rw [sb_length] at this
    omega
theorem putB_range (s : ByteArray) : ∀ a ∈ putB s, 0 ≤ a ∧ a ≤ 255 := by
  unfold putB
  split
  · intro a ha; simp at ha
  · exact frameB_range (sb s) (by rw [sb_length]; omega) (sb_range s)

theorem F_Put (a : AV) (l : List Int) (ha : a = .ro 1 (enc (eInt .u8) l) false ∨ a = .ro 1 [] true ∧ l = []) (hl : l.length ≤ 100000) (s : ByteArray) : F T 40 [a, .str s] [] = some (.own 0 0 (l ++ putB s).length, [⟨5, 1, false, enc (eInt .u8) (l ++ putB s), 0⟩]) := by
  have b1 : l.length ≤ 140737488355328 := by omega
  unfold putB
  by_cases h : 4096 < s.size
  · have h' : (4096 : Int) < s.size := by omega
    rw [if_pos h, List.append_nil]
    refine F_W T40 ?_
    simp only [c40, c40_b, Lift.start]
    rcases ha with rfl | ⟨rfl, rfl⟩
    · repeat (first | refine W_assoc ?_ | (show W _ (.seq (.region _ _) _) _ _; refine W_reg (by simp; with_reducible rfl) ?_) | (show R _ _ _ (_ :: _) _ _ _ _; refine R_op (by simp (maxSteps := 2000000) [h, h', b1]; with_reducible rfl) ?_) | (show R _ _ _ [] _ _ _ _; refine R_nil (by simp; with_reducible rfl) ?_) | (show W _ (.seq (.cond _ _ _) _) _ _; first | refine W_ct (by first | (simp [h, h', b1]; done) | fail) ?_ | refine W_cf (by first | (simp [h, h', b1]; done) | fail) ?_) | refine W_skip ?_ | refine W_bl (c := .seq _ _) ?_ | refine W_bl (c := .region _ _) ?_ | refine W_bl (c := .cond _ _ _) ?_ | refine W_bl (c := .block _ _) ?_ | refine W_rt ?_ | refine W_ex ?_ | refine W_end ?_ | refine W_tail (a := .region _ _) ?_ | refine W_tail (a := .cond _ _ _) ?_ | refine W_tail (a := .ret) ?_ | refine W_tail (a := .exit _) ?_ | refine W_tail (a := .block _ _) ?_ | refine QB_normal ?_ | refine QB_exit ?_ | refine QB_ret ?_ | refine QB_out (by decide) ?_ | refine QL_next ?_ | refine QL_exit ?_ | refine QL_ret ?_ | refine QL_out (by decide) ?_ | (show Fin _ _ .ret _; exact Fin_ret (by first | (simp [c40]; done) | (simp [c40]; with_reducible rfl))) | (show Fin _ _ .normal _; exact Fin_end (by first | (simp [c40]; done) | (simp [c40]; with_reducible rfl))))
    · repeat (first | refine W_assoc ?_ | (show W _ (.seq (.region _ _) _) _ _; refine W_reg (by simp; with_reducible rfl) ?_) | (show R _ _ _ (_ :: _) _ _ _ _; refine R_op (by simp (maxSteps := 2000000) [h, h']; with_reducible rfl) ?_) | (show R _ _ _ [] _ _ _ _; refine R_nil (by simp; with_reducible rfl) ?_) | (show W _ (.seq (.cond _ _ _) _) _ _; first | refine W_ct (by first | (simp [h, h']; done) | fail) ?_ | refine W_cf (by first | (simp [h, h']; done) | fail) ?_) | refine W_skip ?_ | refine W_bl (c := .seq _ _) ?_ | refine W_bl (c := .region _ _) ?_ | refine W_bl (c := .cond _ _ _) ?_ | refine W_bl (c := .block _ _) ?_ | refine W_rt ?_ | refine W_ex ?_ | refine W_end ?_ | refine W_tail (a := .region _ _) ?_ | refine W_tail (a := .cond _ _ _) ?_ | refine W_tail (a := .ret) ?_ | refine W_tail (a := .exit _) ?_ | refine W_tail (a := .block _ _) ?_ | refine QB_normal ?_ | refine QB_exit ?_ | refine QB_ret ?_ | refine QB_out (by decide) ?_ | refine QL_next ?_ | refine QL_exit ?_ | refine QL_ret ?_ | refine QL_out (by decide) ?_ | (show Fin _ _ .ret _; exact Fin_ret (by first | (simp [c40]; done) | (simp [c40]; with_reducible rfl))) | (show Fin _ _ .normal _; exact Fin_end (by first | (simp [c40]; done) | (simp [c40]; with_reducible rfl))))
  · have h' : ¬ (4096 : Int) < s.size := by omega
    rw [if_neg h]
    have f1 := F_Text [] s (by simp) (by omega)
    simp only [enc_nil, List.nil_append] at f1
    have hr := textB_range (sb s) (by rw [sb_length]; omega) (sb_range s)
    have hl2 := textB_len (sb s) (by rw [sb_length]; omega)
    rw [sb_length] at hl2
    rw [show numB s.size ++ sb s = textB (sb s) by unfold textB; rw [sb_length]] at f1
    have f2 := F_Seal (textB (sb s)) (by omega) hr
    rw [show textB (sb s) ++ Crc.four (Crc.crc (textB (sb s))) = frameB (sb s) from rfl] at f2
    have h3 := frameB_len (sb s)
    generalize textB (sb s) = t at *
    generalize frameB (sb s) = z at *
    have b2 : l.length + z.length ≤ 140737488355328 := by omega
    have b3 : ¬ (l.length + z.length ≤ l.length) := by omega
    have b4 : z.length ≤ 140737488355328 := by omega
    have hz : z ≠ [] := by rintro rfl; simp at h3
    have hzl : z.length ≠ 0 := by omega
    refine F_W T40 ?_
    simp only [c40, c40_b, Lift.start]
    rcases ha with rfl | ⟨rfl, rfl⟩
    · repeat (first | refine W_assoc ?_ | (show W _ (.seq (.region _ _) _) _ _; refine W_reg (by simp; with_reducible rfl) ?_) | (show R _ _ _ (_ :: _) _ _ _ _; refine R_op (by simp (maxSteps := 2000000) [h, h', b1, b2, b3, hz, f1, f2]; with_reducible rfl) ?_) | (show R _ _ _ [] _ _ _ _; refine R_nil (by simp; with_reducible rfl) ?_) | (show W _ (.seq (.cond _ _ _) _) _ _; first | refine W_ct (by first | (simp [h, h', b1, b2, b3, hz, f1, f2]; done) | fail) ?_ | refine W_cf (by first | (simp [h, h', b1, b2, b3, hz, f1, f2]; done) | fail) ?_) | refine W_skip ?_ | refine W_bl (c := .seq _ _) ?_ | refine W_bl (c := .region _ _) ?_ | refine W_bl (c := .cond _ _ _) ?_ | refine W_bl (c := .block _ _) ?_ | refine W_rt ?_ | refine W_ex ?_ | refine W_end ?_ | refine W_tail (a := .region _ _) ?_ | refine W_tail (a := .cond _ _ _) ?_ | refine W_tail (a := .ret) ?_ | refine W_tail (a := .exit _) ?_ | refine W_tail (a := .block _ _) ?_ | refine QB_normal ?_ | refine QB_exit ?_ | refine QB_ret ?_ | refine QB_out (by decide) ?_ | refine QL_next ?_ | refine QL_exit ?_ | refine QL_ret ?_ | refine QL_out (by decide) ?_ | (show Fin _ _ .ret _; exact Fin_ret (by first | (simp [c40]; done) | (simp [c40]; with_reducible rfl))) | (show Fin _ _ .normal _; exact Fin_end (by first | (simp [c40]; done) | (simp [c40]; with_reducible rfl))))
    · repeat (first | refine W_assoc ?_ | (show W _ (.seq (.region _ _) _) _ _; refine W_reg (by simp; with_reducible rfl) ?_) | (show R _ _ _ (_ :: _) _ _ _ _; refine R_op (by simp (maxSteps := 2000000) [h, h', b4, hz, hzl, f1, f2]; with_reducible rfl) ?_) | (show R _ _ _ [] _ _ _ _; refine R_nil (by simp; with_reducible rfl) ?_) | (show W _ (.seq (.cond _ _ _) _) _ _; first | refine W_ct (by first | (simp [h, h', b4, hz, hzl, f1, f2]; done) | fail) ?_ | refine W_cf (by first | (simp [h, h', b4, hz, hzl, f1, f2]; done) | fail) ?_) | refine W_skip ?_ | refine W_bl (c := .seq _ _) ?_ | refine W_bl (c := .region _ _) ?_ | refine W_bl (c := .cond _ _ _) ?_ | refine W_bl (c := .block _ _) ?_ | refine W_rt ?_ | refine W_ex ?_ | refine W_end ?_ | refine W_tail (a := .region _ _) ?_ | refine W_tail (a := .cond _ _ _) ?_ | refine W_tail (a := .ret) ?_ | refine W_tail (a := .exit _) ?_ | refine W_tail (a := .block _ _) ?_ | refine QB_normal ?_ | refine QB_exit ?_ | refine QB_ret ?_ | refine QB_out (by decide) ?_ | refine QL_next ?_ | refine QL_exit ?_ | refine QL_ret ?_ | refine QL_out (by decide) ?_ | (show Fin _ _ .ret _; exact Fin_ret (by first | (simp [c40]; done) | (simp [c40]; with_reducible rfl))) | (show Fin _ _ .normal _; exact Fin_end (by first | (simp [c40]; done) | (simp [c40]; with_reducible rfl))))

theorem V_RPut (s : ByteArray) : FV (F T) 41 [.str s] = some (.str (bs (putB s))) := by
  have hF : F T 41 [.str s] [] = some (.str (bs (putB s)), []) := by
    unfold putB
    by_cases h : 4096 < s.size
    · have h' : (4096 : Int) < s.size := by omega
      rw [if_pos h]
      refine F_W T41 ?_
      simp only [c41, c41_b, Lift.start]
      repeat (first | refine W_assoc ?_ | (show W _ (.seq (.region _ _) _) _ _; refine W_reg (by simp; with_reducible rfl) ?_) | (show R _ _ _ (_ :: _) _ _ _ _; refine R_op (by simp (maxSteps := 2000000) [h, h']; with_reducible rfl) ?_) | (show R _ _ _ [] _ _ _ _; refine R_nil (by simp; with_reducible rfl) ?_) | (show W _ (.seq (.cond _ _ _) _) _ _; first | refine W_ct (by first | (simp [h, h']; done) | fail) ?_ | refine W_cf (by first | (simp [h, h']; done) | fail) ?_) | refine W_skip ?_ | refine W_bl (c := .seq _ _) ?_ | refine W_bl (c := .region _ _) ?_ | refine W_bl (c := .cond _ _ _) ?_ | refine W_bl (c := .block _ _) ?_ | refine W_rt ?_ | refine W_ex ?_ | refine W_end ?_ | refine W_tail (a := .region _ _) ?_ | refine W_tail (a := .cond _ _ _) ?_ | refine W_tail (a := .ret) ?_ | refine W_tail (a := .exit _) ?_ | refine W_tail (a := .block _ _) ?_ | refine QB_normal ?_ | refine QB_exit ?_ | refine QB_ret ?_ | refine QB_out (by decide) ?_ | refine QL_next ?_ | refine QL_exit ?_ | refine QL_ret ?_ | refine QL_out (by decide) ?_ | (show Fin _ _ .ret _; exact Fin_ret (by first | (simp [c41, bs0]; done) | (simp [c41, bs0]; with_reducible rfl))) | (show Fin _ _ .normal _; exact Fin_end (by first | (simp [c41, bs0]; done) | (simp [c41, bs0]; with_reducible rfl))))
    · have h' : ¬ (4096 : Int) < s.size := by omega
      rw [if_neg h]
      have f1 := V_R01Text s (by omega)
      rw [show bs (numB s.size) ++ s = bs (textB (sb s)) by unfold textB; rw [bs_append, bs_sb, sb_length]] at f1
      have hr := textB_range (sb s) (by rw [sb_length]; omega) (sb_range s)
      have hl2 := textB_len (sb s) (by rw [sb_length]; omega)
      rw [sb_length] at hl2
      have f2 := V_RSeal (textB (sb s)) (by omega) hr
      rw [show textB (sb s) ++ Crc.four (Crc.crc (textB (sb s))) = frameB (sb s) from rfl] at f2
      generalize textB (sb s) = t at *
      generalize frameB (sb s) = z at *
      refine F_W T41 ?_
      simp only [c41, c41_b, Lift.start]
      repeat (first | refine W_assoc ?_ | (show W _ (.seq (.region _ _) _) _ _; refine W_reg (by simp; with_reducible rfl) ?_) | (show R _ _ _ (_ :: _) _ _ _ _; refine R_op (by simp (maxSteps := 2000000) [h, h', f1, f2]; with_reducible rfl) ?_) | (show R _ _ _ [] _ _ _ _; refine R_nil (by simp; with_reducible rfl) ?_) | (show W _ (.seq (.cond _ _ _) _) _ _; first | refine W_ct (by first | (simp [h, h', f1, f2]; done) | fail) ?_ | refine W_cf (by first | (simp [h, h', f1, f2]; done) | fail) ?_) | refine W_skip ?_ | refine W_bl (c := .seq _ _) ?_ | refine W_bl (c := .region _ _) ?_ | refine W_bl (c := .cond _ _ _) ?_ | refine W_bl (c := .block _ _) ?_ | refine W_rt ?_ | refine W_ex ?_ | refine W_end ?_ | refine W_tail (a := .region _ _) ?_ | refine W_tail (a := .cond _ _ _) ?_ | refine W_tail (a := .ret) ?_ | refine W_tail (a := .exit _) ?_ | refine W_tail (a := .block _ _) ?_ | refine QB_normal ?_ | refine QB_exit ?_ | refine QB_ret ?_ | refine QB_out (by decide) ?_ | refine QL_next ?_ | refine QL_exit ?_ | refine QL_ret ?_ | refine QL_out (by decide) ?_ | (show Fin _ _ .ret _; exact Fin_ret (by first | (simp [c41]; done) | (simp [c41]; with_reducible rfl))) | (show Fin _ _ .normal _; exact Fin_end (by first | (simp [c41]; done) | (simp [c41]; with_reducible rfl))))
  simpa using FV_of hF

theorem V_works03 : FV (F T) 39 [] = some (.bool true) := by
  have hw : F T 39 [] [] = some (.bool true, []) := F_iff.2 ⟨60, by kernel_rfl⟩
  have h := FV_of hw
  simpa using h

theorem R03_Same_loop (l m : List ByteArray) (hl : l.length ≤ 140737488355328) (hlm : l.length = m.length) :
    ∀ (k i : Nat) (st : ASt), i + k = l.length → canon [0, 1, 5] st = ⟨[.ro 1 (enc eStr l) false, .ro 1 (enc eStr m) false, .top, .top, .top, .int .i64 i, .top, .top, .top, .top, .top, .top, .top, .top, .top, .top, .top, .top, .top, .top, .top, .top, .top, .top, .top, .top], [], 0, 0⟩ → W T c46_k0 st (Lift.Fin c46 (.bool (decide (l.drop i = m.drop i)), [])) := by
  intro k
  induction k with
  | zero =>
    intro i st hi hc
    have h1 : ¬ i < l.length := by omega
    have e1 : l.drop i = [] := List.drop_of_length_le (by omega)
    have e2 : m.drop i = [] := List.drop_of_length_le (by omega)
    unfold c46_k0
    refine W_exit (by rw [hc]; simp (maxSteps := 2000000) [c46_l0, h1]; with_reducible rfl) ?_
    exact W_fin (ex := .ret) (by simp (maxSteps := 2000000); with_reducible rfl) (by simp) (by first | (simp [c46, e1, e2]; done) | (simp [c46, e1, e2]; with_reducible rfl))
  | succ k ih =>
    intro i st hi hc
    have hlt : i < l.length := by omega
    have hlt2 : i < m.length := by omega
    have hw := wrapS i _ hlt hl
    have d1 := List.drop_eq_getElem_cons hlt
    have d2 := List.drop_eq_getElem_cons hlt2
    unfold c46_k0
    by_cases he : l[i] = m[i]
    · rw [d1, d2, he]
      simp only [List.cons.injEq, true_and]
      refine W_next (by rw [hc]; simp (maxSteps := 2000000) [c46_l0, hlt, hlt2, hw, he, eqCs, hlm]; with_reducible rfl) ?_
      exact ih (i + 1) _ (by omega) (by simp [hlm])
    · have hd : decide (l.drop i = m.drop i) = false := by
        rw [decide_eq_false_iff_not, d1, d2]; intro e; injection e with e _; exact he e
      rw [hd]
      exact W_ret (by rw [hc]; simp (maxSteps := 2000000) [c46_l0, hlt, hlt2, he, hlm]; with_reducible rfl) (Fin_ret (by simp [c46]))

theorem F_R03_Same (l m : List ByteArray) (hl : l.length ≤ 1000000) (hm : m.length ≤ 1000000) : F T 46 [.ro 1 (enc eStr l) false, .ro 1 (enc eStr m) false] [] = some (.bool (decide (l = m)), []) := by
  refine F_W T46 ?_
  by_cases h : l.length = m.length
  · simp only [c46, c46_b, Lift.start]
    repeat (first | refine W_assoc ?_ | refine W_go (a := .region _ _) (by simp (maxSteps := 2000000) [h]; with_reducible rfl) ?_ | refine W_go (a := .cond _ _ _) (by simp (maxSteps := 2000000) [h]; with_reducible rfl) ?_ | refine W_go (a := .block _ (.seq _ _)) (by simp (maxSteps := 2000000) [h]; with_reducible rfl) ?_)
    have := R03_Same_loop l m (by omega) h l.length 0
    simp only [List.drop_zero] at this
    exact this _ (by simp) (by simp [h])
  · have h1 : decide (l = m) = false := by
      rw [decide_eq_false_iff_not]; intro e; exact h (by rw [e])
    have h2 : ¬ (l.length : Int) = (m.length : Int) := by omega
    rw [h1]
    exact W_fin (ex := .ret) (by simp (maxSteps := 2000000) [c46, c46_b, h2, h]; with_reducible rfl) (by simp) (by first | (simp [c46]; done) | (simp [c46]; with_reducible rfl))


theorem F_Cut (l : List Int) (hb : ∀ a ∈ l, 0 ≤ a ∧ a ≤ 255) (hl : l.length ≤ 4112) : F T 42 [.ro 1 (enc (eInt .u8) l) false] [] = some (.tup [.str (bs (cutP l).1), .int .i64 (cutP l).2.1, .int .i64 (cutP l).2.2], []) := by
  have hI : InR l 0 l.length := ⟨hb, by omega, by omega⟩
  have f1 := F_New _ l (.inl rfl) (by omega)
  have f2 := F_RText hI 0 4096
  rw [List.drop_zero] at f2
  have hk := rdT_ok' l 4096 hb
  have hmin : ¬ (4112 : Int) < l.length := by omega
  unfold cutP
  generalize hq : rdT l 0 4096 = q at *
  obtain ⟨p, k, e⟩ := q
  simp only [Nat.zero_add] at f2 hk ⊢
  have f3 := F_RLeft l k (l.length - k) e
  have f4 := F_RErr l k (l.length - k) e
  have w1 : IntKind.i64.wrap ((l.length : Int) - ((l.length - k : Nat) : Int)) = (k : Int) := by rw [wrap_id _ (by omega) (by omega)]; omega
  have hmm : (l.length : Int) ≤ 4112 := by omega
  refine F_W T42 ?_
  simp only [c42, c42_b, Lift.start]
  by_cases he : e = 0
  · subst he
    rw [if_neg (by simp)]
    have w2 : IntKind.i64.wrap ((l.length : Int) - k) = (l.length : Int) - k := wrap_id _ (by omega) (by omega)
    by_cases h4 : l.length < k + 4
    · have h4' : (l.length : Int) - k < 4 := by omega
      rw [if_pos h4]
      repeat (first | refine W_assoc ?_ | (show W _ (.seq (.region _ _) _) _ _; refine W_reg (by simp; with_reducible rfl) ?_) | (show R _ _ _ (_ :: _) _ _ _ _; refine R_op (by simp (maxSteps := 2000000) [hmin, hmm, f1, f2, f3, f4, w1, w2, h4']; with_reducible rfl) ?_) | (show R _ _ _ [] _ _ _ _; refine R_nil (by simp; with_reducible rfl) ?_) | (show W _ (.seq (.cond _ _ _) _) _ _; first | refine W_ct (by first | (simp [hmin, hmm, f1, f2, f3, f4, w1, w2, h4']; done) | fail) ?_ | refine W_cf (by first | (simp [hmin, hmm, f1, f2, f3, f4, w1, w2, h4']; done) | fail) ?_) | refine W_skip ?_ | refine W_bl (c := .seq _ _) ?_ | refine W_bl (c := .region _ _) ?_ | refine W_bl (c := .cond _ _ _) ?_ | refine W_bl (c := .block _ _) ?_ | refine W_rt ?_ | refine W_ex ?_ | refine W_end ?_ | refine W_tail (a := .region _ _) ?_ | refine W_tail (a := .cond _ _ _) ?_ | refine W_tail (a := .ret) ?_ | refine W_tail (a := .exit _) ?_ | refine W_tail (a := .block _ _) ?_ | refine QB_normal ?_ | refine QB_exit ?_ | refine QB_ret ?_ | refine QB_out (by decide) ?_ | refine QL_next ?_ | refine QL_exit ?_ | refine QL_ret ?_ | refine QL_out (by decide) ?_ | (show Fin _ _ .ret _; exact Fin_ret (by first | (simp [c42, bs0]; done) | (simp [c42, bs0]; with_reducible rfl))) | (show Fin _ _ .normal _; exact Fin_end (by first | (simp [c42, bs0]; done) | (simp [c42, bs0]; with_reducible rfl))))
    · have h4' : ¬ (l.length : Int) - k < 4 := by omega
      rw [if_neg h4]
      have w3 : IntKind.i64.wrap ((k : Int) + 4) = ((k + 4 : Nat) : Int) := by rw [wrap_id _ (by omega) (by omega)]; omega
      have w3' : IntKind.i64.wrap ((k : Int) + 4) = (k : Int) + 4 := wrap_id _ (by omega) (by omega)
      have h5 : k + 4 ≤ l.length := by omega
      have h5' : (k : Int) + 4 ≤ l.length := by omega
      have h6 : (0 : Int) ≤ (k : Int) + 4 := by omega
      have h7 : ((k : Int) + 4).toNat = k + 4 := by omega
      have f5' := F_Open (l.take (k + 4)) (by simp; omega) (fun a ha => hb a (List.mem_of_mem_take ha))
      by_cases hs : sealed (l.take (k + 4)) = true
      · rw [if_pos hs] at f5' ⊢
        have f5 := FV_of f5'
        clear f5'
        simp at f5
        generalize hlt : l.take (k + 4) = lt at *
        repeat (first | refine W_assoc ?_ | (show W _ (.seq (.region _ _) _) _ _; refine W_reg (by simp; with_reducible rfl) ?_) | (show R _ _ _ (_ :: _) _ _ _ _; refine R_op (by simp (maxSteps := 2000000) [hmin, hmm, f1, f2, f3, f4, w1, w2, w3', h4', h5, h5', h6, h7, hlt, f5]; with_reducible rfl) ?_) | (show R _ _ _ [] _ _ _ _; refine R_nil (by simp; with_reducible rfl) ?_) | (show W _ (.seq (.cond _ _ _) _) _ _; first | refine W_ct (by first | (simp [hmin, hmm, f1, f2, f3, f4, w1, w2, w3', h4', h5, h5', h6, h7, hlt, f5]; done) | fail) ?_ | refine W_cf (by first | (simp [hmin, hmm, f1, f2, f3, f4, w1, w2, w3', h4', h5, h5', h6, h7, hlt, f5]; done) | fail) ?_) | refine W_skip ?_ | refine W_bl (c := .seq _ _) ?_ | refine W_bl (c := .region _ _) ?_ | refine W_bl (c := .cond _ _ _) ?_ | refine W_bl (c := .block _ _) ?_ | refine W_rt ?_ | refine W_ex ?_ | refine W_end ?_ | refine W_tail (a := .region _ _) ?_ | refine W_tail (a := .cond _ _ _) ?_ | refine W_tail (a := .ret) ?_ | refine W_tail (a := .exit _) ?_ | refine W_tail (a := .block _ _) ?_ | refine QB_normal ?_ | refine QB_exit ?_ | refine QB_ret ?_ | refine QB_out (by decide) ?_ | refine QL_next ?_ | refine QL_exit ?_ | refine QL_ret ?_ | refine QL_out (by decide) ?_ | (show Fin _ _ .ret _; exact Fin_ret (by first | (simp [c42, w3']; done) | (simp [c42, w3']; with_reducible rfl))) | (show Fin _ _ .normal _; exact Fin_end (by first | (simp [c42, w3']; done) | (simp [c42, w3']; with_reducible rfl))))
      · rw [if_neg hs] at f5' ⊢
        have f5 := FV_of f5'
        clear f5'
        simp at f5
        generalize hlt : l.take (k + 4) = lt at *
        repeat (first | refine W_assoc ?_ | (show W _ (.seq (.region _ _) _) _ _; refine W_reg (by simp; with_reducible rfl) ?_) | (show R _ _ _ (_ :: _) _ _ _ _; refine R_op (by simp (maxSteps := 2000000) [hmin, hmm, f1, f2, f3, f4, w1, w2, w3', h4', h5, h5', h6, h7, hlt, f5]; with_reducible rfl) ?_) | (show R _ _ _ [] _ _ _ _; refine R_nil (by simp; with_reducible rfl) ?_) | (show W _ (.seq (.cond _ _ _) _) _ _; first | refine W_ct (by first | (simp [hmin, hmm, f1, f2, f3, f4, w1, w2, w3', h4', h5, h5', h6, h7, hlt, f5]; done) | fail) ?_ | refine W_cf (by first | (simp [hmin, hmm, f1, f2, f3, f4, w1, w2, w3', h4', h5, h5', h6, h7, hlt, f5]; done) | fail) ?_) | refine W_skip ?_ | refine W_bl (c := .seq _ _) ?_ | refine W_bl (c := .region _ _) ?_ | refine W_bl (c := .cond _ _ _) ?_ | refine W_bl (c := .block _ _) ?_ | refine W_rt ?_ | refine W_ex ?_ | refine W_end ?_ | refine W_tail (a := .region _ _) ?_ | refine W_tail (a := .cond _ _ _) ?_ | refine W_tail (a := .ret) ?_ | refine W_tail (a := .exit _) ?_ | refine W_tail (a := .block _ _) ?_ | refine QB_normal ?_ | refine QB_exit ?_ | refine QB_ret ?_ | refine QB_out (by decide) ?_ | refine QL_next ?_ | refine QL_exit ?_ | refine QL_ret ?_ | refine QL_out (by decide) ?_ | (show Fin _ _ .ret _; exact Fin_ret (by first | (simp [c42, bs0]; done) | (simp [c42, bs0]; with_reducible rfl))) | (show Fin _ _ .normal _; exact Fin_end (by first | (simp [c42, bs0]; done) | (simp [c42, bs0]; with_reducible rfl))))
  · rw [if_pos he]
    repeat (first | refine W_assoc ?_ | (show W _ (.seq (.region _ _) _) _ _; refine W_reg (by simp; with_reducible rfl) ?_) | (show R _ _ _ (_ :: _) _ _ _ _; refine R_op (by simp (maxSteps := 2000000) [hmin, hmm, f1, f2, f3, f4, w1, he]; with_reducible rfl) ?_) | (show R _ _ _ [] _ _ _ _; refine R_nil (by simp; with_reducible rfl) ?_) | (show W _ (.seq (.cond _ _ _) _) _ _; first | refine W_ct (by first | (simp [hmin, hmm, f1, f2, f3, f4, w1, he]; done) | fail) ?_ | refine W_cf (by first | (simp [hmin, hmm, f1, f2, f3, f4, w1, he]; done) | fail) ?_) | refine W_skip ?_ | refine W_bl (c := .seq _ _) ?_ | refine W_bl (c := .region _ _) ?_ | refine W_bl (c := .cond _ _ _) ?_ | refine W_bl (c := .block _ _) ?_ | refine W_rt ?_ | refine W_ex ?_ | refine W_end ?_ | refine W_tail (a := .region _ _) ?_ | refine W_tail (a := .cond _ _ _) ?_ | refine W_tail (a := .ret) ?_ | refine W_tail (a := .exit _) ?_ | refine W_tail (a := .block _ _) ?_ | refine QB_normal ?_ | refine QB_exit ?_ | refine QB_ret ?_ | refine QB_out (by decide) ?_ | refine QL_next ?_ | refine QL_exit ?_ | refine QL_ret ?_ | refine QL_out (by decide) ?_ | (show Fin _ _ .ret _; exact Fin_ret (by first | (simp [c42, bs0]; done) | (simp [c42, bs0]; with_reducible rfl))) | (show Fin _ _ .normal _; exact Fin_end (by first | (simp [c42, bs0]; done) | (simp [c42, bs0]; with_reducible rfl))))

theorem F_RCut (l : List Int) (hb : ∀ a ∈ l, 0 ≤ a ∧ a ≤ 255) (hl : l.length ≤ 4112) : F T 43 [.str (bs l)] [] = some (.tup [.str (bs (cutP l).1), .int .i64 (cutP l).2.1, .int .i64 (cutP l).2.2], []) := by
  have f2 := F_MText l 0 4096 hb (by omega)
  have hk := rdT_ok' l 4096 hb
  unfold cutP
  generalize hq : rdT l 0 4096 = q at *
  obtain ⟨p, k, e⟩ := q
  simp only [] at f2 hk ⊢
  have hdl : (l.drop k).length = l.length - k := List.length_drop
  have w1 : IntKind.i64.wrap ((l.length : Int) - ((l.length - k : Nat) : Int)) = (k : Int) := by rw [wrap_id _ (by omega) (by omega)]; omega
  refine F_W T43 ?_
  simp only [c43, c43_b, Lift.start]
  by_cases he : e = 0
  · subst he
    rw [if_neg (by simp)]
    have w3' : IntKind.i64.wrap ((k : Int) + 4) = (k : Int) + 4 := wrap_id _ (by omega) (by omega)
    by_cases h4 : l.length < k + 4
    · have h4' : (l.length : Int) < (k : Int) + 4 := by omega
      rw [if_pos h4]
      repeat (first | refine W_assoc ?_ | (show W _ (.seq (.region _ _) _) _ _; refine W_reg (by simp; with_reducible rfl) ?_) | (show R _ _ _ (_ :: _) _ _ _ _; refine R_op (by simp (maxSteps := 2000000) [f2, w1, w3', h4']; with_reducible rfl) ?_) | (show R _ _ _ [] _ _ _ _; refine R_nil (by simp; with_reducible rfl) ?_) | (show W _ (.seq (.cond _ _ _) _) _ _; first | refine W_ct (by first | (simp [f2, w1, w3', h4']; done) | fail) ?_ | refine W_cf (by first | (simp [f2, w1, w3', h4']; done) | fail) ?_) | refine W_skip ?_ | refine W_bl (c := .seq _ _) ?_ | refine W_bl (c := .region _ _) ?_ | refine W_bl (c := .cond _ _ _) ?_ | refine W_bl (c := .block _ _) ?_ | refine W_rt ?_ | refine W_ex ?_ | refine W_end ?_ | refine W_tail (a := .region _ _) ?_ | refine W_tail (a := .cond _ _ _) ?_ | refine W_tail (a := .ret) ?_ | refine W_tail (a := .exit _) ?_ | refine W_tail (a := .block _ _) ?_ | refine QB_normal ?_ | refine QB_exit ?_ | refine QB_ret ?_ | refine QB_out (by decide) ?_ | refine QL_next ?_ | refine QL_exit ?_ | refine QL_ret ?_ | refine QL_out (by decide) ?_ | (show Fin _ _ .ret _; exact Fin_ret (by first | (simp [c43, bs0]; done) | (simp [c43, bs0]; with_reducible rfl))) | (show Fin _ _ .normal _; exact Fin_end (by first | (simp [c43, bs0]; done) | (simp [c43, bs0]; with_reducible rfl))))
    · have h4' : ¬ (l.length : Int) < (k : Int) + 4 := by omega
      rw [if_neg h4]
      have h5 : k + 4 ≤ l.length := by omega
      have h5' : (k : Int) + 4 ≤ l.length := by omega
      have h6 : (0 : Int) ≤ (k : Int) + 4 := by omega
      have h7 : ((k : Int) + 4).toNat = k + 4 := by omega
      have f5 := V_RSeal (l.take k) (by simp; omega) (fun a ha => hb a (List.mem_of_mem_take ha))
      have hsi := sealed_iff l k h5
      have hne : ¬ l.take k ++ Crc.four (Crc.crc (l.take k)) = l.take (k + 4) → ¬ bs (l.take k ++ Crc.four (Crc.crc (l.take k))) = bs (l.take (k + 4)) := by
        intro h1 h2
        refine h1 (bs_inj ?_ (fun a ha => hb a (List.mem_of_mem_take ha)) h2)
        intro a ha
        rcases List.mem_append.1 ha with h | h
        · exact hb a (List.mem_of_mem_take h)
        · exact four_range _ a h
      by_cases hs : sealed (l.take (k + 4)) = true
      · rw [if_pos hs]
        have he := hsi.1 hs
        rw [he] at f5
        generalize hlt : l.take (k + 4) = lt at *
        generalize hlk : l.take k = lk at *
        repeat (first | refine W_assoc ?_ | (show W _ (.seq (.region _ _) _) _ _; refine W_reg (by simp; with_reducible rfl) ?_) | (show R _ _ _ (_ :: _) _ _ _ _; refine R_op (by simp (maxSteps := 2000000) [f2, w1, w3', h4', h5, h5', h6, h7, hk, hlt, hlk, f5]; with_reducible rfl) ?_) | (show R _ _ _ [] _ _ _ _; refine R_nil (by simp; with_reducible rfl) ?_) | (show W _ (.seq (.cond _ _ _) _) _ _; first | refine W_ct (by first | (simp [f2, w1, w3', h4', h5, h5', h6, h7, hk, hlt, hlk, f5]; done) | fail) ?_ | refine W_cf (by first | (simp [f2, w1, w3', h4', h5, h5', h6, h7, hk, hlt, hlk, f5]; done) | fail) ?_) | refine W_skip ?_ | refine W_bl (c := .seq _ _) ?_ | refine W_bl (c := .region _ _) ?_ | refine W_bl (c := .cond _ _ _) ?_ | refine W_bl (c := .block _ _) ?_ | refine W_rt ?_ | refine W_ex ?_ | refine W_end ?_ | refine W_tail (a := .region _ _) ?_ | refine W_tail (a := .cond _ _ _) ?_ | refine W_tail (a := .ret) ?_ | refine W_tail (a := .exit _) ?_ | refine W_tail (a := .block _ _) ?_ | refine QB_normal ?_ | refine QB_exit ?_ | refine QB_ret ?_ | refine QB_out (by decide) ?_ | refine QL_next ?_ | refine QL_exit ?_ | refine QL_ret ?_ | refine QL_out (by decide) ?_ | (show Fin _ _ .ret _; exact Fin_ret (by first | (simp [c43, w3']; done) | (simp [c43, w3']; with_reducible rfl))) | (show Fin _ _ .normal _; exact Fin_end (by first | (simp [c43, w3']; done) | (simp [c43, w3']; with_reducible rfl))))
      · rw [if_neg hs]
        have he := hne (fun h => hs (hsi.2 h))
        generalize hlt : l.take (k + 4) = lt at *
        generalize hlk : l.take k = lk at *
        generalize lk ++ Crc.four (Crc.crc lk) = z at *
        repeat (first | refine W_assoc ?_ | (show W _ (.seq (.region _ _) _) _ _; refine W_reg (by simp; with_reducible rfl) ?_) | (show R _ _ _ (_ :: _) _ _ _ _; refine R_op (by simp (maxSteps := 2000000) [f2, w1, w3', h4', h5, h5', h6, h7, hk, hlt, hlk, f5, he]; with_reducible rfl) ?_) | (show R _ _ _ [] _ _ _ _; refine R_nil (by simp; with_reducible rfl) ?_) | (show W _ (.seq (.cond _ _ _) _) _ _; first | refine W_ct (by first | (simp [f2, w1, w3', h4', h5, h5', h6, h7, hk, hlt, hlk, f5, he]; done) | fail) ?_ | refine W_cf (by first | (simp [f2, w1, w3', h4', h5, h5', h6, h7, hk, hlt, hlk, f5, he]; done) | fail) ?_) | refine W_skip ?_ | refine W_bl (c := .seq _ _) ?_ | refine W_bl (c := .region _ _) ?_ | refine W_bl (c := .cond _ _ _) ?_ | refine W_bl (c := .block _ _) ?_ | refine W_rt ?_ | refine W_ex ?_ | refine W_end ?_ | refine W_tail (a := .region _ _) ?_ | refine W_tail (a := .cond _ _ _) ?_ | refine W_tail (a := .ret) ?_ | refine W_tail (a := .exit _) ?_ | refine W_tail (a := .block _ _) ?_ | refine QB_normal ?_ | refine QB_exit ?_ | refine QB_ret ?_ | refine QB_out (by decide) ?_ | refine QL_next ?_ | refine QL_exit ?_ | refine QL_ret ?_ | refine QL_out (by decide) ?_ | (show Fin _ _ .ret _; exact Fin_ret (by first | (simp [c43, bs0]; done) | (simp [c43, bs0]; with_reducible rfl))) | (show Fin _ _ .normal _; exact Fin_end (by first | (simp [c43, bs0]; done) | (simp [c43, bs0]; with_reducible rfl))))
  · rw [if_pos he]
    repeat (first | refine W_assoc ?_ | (show W _ (.seq (.region _ _) _) _ _; refine W_reg (by simp; with_reducible rfl) ?_) | (show R _ _ _ (_ :: _) _ _ _ _; refine R_op (by simp (maxSteps := 2000000) [f2, w1, he]; with_reducible rfl) ?_) | (show R _ _ _ [] _ _ _ _; refine R_nil (by simp; with_reducible rfl) ?_) | (show W _ (.seq (.cond _ _ _) _) _ _; first | refine W_ct (by first | (simp [f2, w1, he]; done) | fail) ?_ | refine W_cf (by first | (simp [f2, w1, he]; done) | fail) ?_) | refine W_skip ?_ | refine W_bl (c := .seq _ _) ?_ | refine W_bl (c := .region _ _) ?_ | refine W_bl (c := .cond _ _ _) ?_ | refine W_bl (c := .block _ _) ?_ | refine W_rt ?_ | refine W_ex ?_ | refine W_end ?_ | refine W_tail (a := .region _ _) ?_ | refine W_tail (a := .cond _ _ _) ?_ | refine W_tail (a := .ret) ?_ | refine W_tail (a := .exit _) ?_ | refine W_tail (a := .block _ _) ?_ | refine QB_normal ?_ | refine QB_exit ?_ | refine QB_ret ?_ | refine QB_out (by decide) ?_ | refine QL_next ?_ | refine QL_exit ?_ | refine QL_ret ?_ | refine QL_out (by decide) ?_ | (show Fin _ _ .ret _; exact Fin_ret (by first | (simp [c43, bs0]; done) | (simp [c43, bs0]; with_reducible rfl))) | (show Fin _ _ .normal _; exact Fin_end (by first | (simp [c43, bs0]; done) | (simp [c43, bs0]; with_reducible rfl))))

theorem puts (l : List Int) (hb : ∀ a ∈ l, 0 ≤ a ∧ a ≤ 255) (s : ByteArray) : F T 9 [.ro 1 (enc (eInt .u8) l) false, .str s] [] = some (.bool true, []) := by
  refine F_W T9 ?_
  simp only [c9, c9_b, Lift.start]
  by_cases h1 : 500 < l.length
  · have h1' : (500 : Int) < l.length := by omega
    repeat (first | refine W_assoc ?_ | (show W _ (.seq (.region _ _) _) _ _; refine W_reg (by simp; with_reducible rfl) ?_) | (show R _ _ _ (_ :: _) _ _ _ _; refine R_op (by simp (maxSteps := 2000000) [h1, h1', V_works03]; with_reducible rfl) ?_) | (show R _ _ _ [] _ _ _ _; refine R_nil (by simp; with_reducible rfl) ?_) | (show W _ (.seq (.cond _ _ _) _) _ _; first | refine W_ct (by first | (simp [h1, h1', V_works03]; done) | fail) ?_ | refine W_cf (by first | (simp [h1, h1', V_works03]; done) | fail) ?_) | refine W_skip ?_ | refine W_bl (c := .seq _ _) ?_ | refine W_bl (c := .region _ _) ?_ | refine W_bl (c := .cond _ _ _) ?_ | refine W_bl (c := .block _ _) ?_ | refine W_rt ?_ | refine W_ex ?_ | refine W_end ?_ | refine W_tail (a := .region _ _) ?_ | refine W_tail (a := .cond _ _ _) ?_ | refine W_tail (a := .ret) ?_ | refine W_tail (a := .exit _) ?_ | refine W_tail (a := .block _ _) ?_ | refine QB_normal ?_ | refine QB_exit ?_ | refine QB_ret ?_ | refine QB_out (by decide) ?_ | refine QL_next ?_ | refine QL_exit ?_ | refine QL_ret ?_ | refine QL_out (by decide) ?_ | (show Fin _ _ .ret _; exact Fin_ret (by first | (simp [c9]; done) | (simp [c9]; with_reducible rfl))) | (show Fin _ _ .normal _; exact Fin_end (by first | (simp [c9]; done) | (simp [c9]; with_reducible rfl))))
  have h1' : ¬ (500 : Int) < l.length := by omega
  by_cases h2 : 5000 < s.size
  · have h2' : (5000 : Int) < s.size := by omega
    repeat (first | refine W_assoc ?_ | (show W _ (.seq (.region _ _) _) _ _; refine W_reg (by simp; with_reducible rfl) ?_) | (show R _ _ _ (_ :: _) _ _ _ _; refine R_op (by simp (maxSteps := 2000000) [h1, h1', h2, h2', V_works03]; with_reducible rfl) ?_) | (show R _ _ _ [] _ _ _ _; refine R_nil (by simp; with_reducible rfl) ?_) | (show W _ (.seq (.cond _ _ _) _) _ _; first | refine W_ct (by first | (simp [h1, h1', h2, h2', V_works03]; done) | fail) ?_ | refine W_cf (by first | (simp [h1, h1', h2, h2', V_works03]; done) | fail) ?_) | refine W_skip ?_ | refine W_bl (c := .seq _ _) ?_ | refine W_bl (c := .region _ _) ?_ | refine W_bl (c := .cond _ _ _) ?_ | refine W_bl (c := .block _ _) ?_ | refine W_rt ?_ | refine W_ex ?_ | refine W_end ?_ | refine W_tail (a := .region _ _) ?_ | refine W_tail (a := .cond _ _ _) ?_ | refine W_tail (a := .ret) ?_ | refine W_tail (a := .exit _) ?_ | refine W_tail (a := .block _ _) ?_ | refine QB_normal ?_ | refine QB_exit ?_ | refine QB_ret ?_ | refine QB_out (by decide) ?_ | refine QL_next ?_ | refine QL_exit ?_ | refine QL_ret ?_ | refine QL_out (by decide) ?_ | (show Fin _ _ .ret _; exact Fin_ret (by first | (simp [c9]; done) | (simp [c9]; with_reducible rfl))) | (show Fin _ _ .normal _; exact Fin_end (by first | (simp [c9]; done) | (simp [c9]; with_reducible rfl))))
  have h2' : ¬ (5000 : Int) < s.size := by omega
  have f1 := FV_of (F_Put _ l (.inl rfl) (by omega) s)
  have f2 := V_RPut s
  have hpl := putB_len s
  have e1 : l.length + (putB s).length ≤ 4611686018427387904 := by omega
  have e2 : bs (l ++ putB s) = bs l ++ bs (putB s) := bs_append _ _
  simp at f1
  generalize putB s = z at *
  repeat (first | refine W_assoc ?_ | (show W _ (.seq (.region _ _) _) _ _; refine W_reg (by simp; with_reducible rfl) ?_) | (show R _ _ _ (_ :: _) _ _ _ _; refine R_op (by simp (maxSteps := 2000000) [h1, h1', h2, h2', f1, f2, e1, e2, V_works03]; with_reducible rfl) ?_) | (show R _ _ _ [] _ _ _ _; refine R_nil (by simp; with_reducible rfl) ?_) | (show W _ (.seq (.cond _ _ _) _) _ _; first | refine W_ct (by first | (simp [h1, h1', h2, h2', f1, f2, e1, e2, V_works03]; done) | fail) ?_ | refine W_cf (by first | (simp [h1, h1', h2, h2', f1, f2, e1, e2, V_works03]; done) | fail) ?_) | refine W_skip ?_ | refine W_bl (c := .seq _ _) ?_ | refine W_bl (c := .region _ _) ?_ | refine W_bl (c := .cond _ _ _) ?_ | refine W_bl (c := .block _ _) ?_ | refine W_rt ?_ | refine W_ex ?_ | refine W_end ?_ | refine W_tail (a := .region _ _) ?_ | refine W_tail (a := .cond _ _ _) ?_ | refine W_tail (a := .ret) ?_ | refine W_tail (a := .exit _) ?_ | refine W_tail (a := .block _ _) ?_ | refine QB_normal ?_ | refine QB_exit ?_ | refine QB_ret ?_ | refine QB_out (by decide) ?_ | refine QL_next ?_ | refine QL_exit ?_ | refine QL_ret ?_ | refine QL_out (by decide) ?_ | (show Fin _ _ .ret _; exact Fin_ret (by first | (simp [c9]; done) | (simp [c9]; with_reducible rfl))) | (show Fin _ _ .normal _; exact Fin_end (by first | (simp [c9]; done) | (simp [c9]; with_reducible rfl))))

end Go.Proofs.Ytnobgooojbppbac.Oct
