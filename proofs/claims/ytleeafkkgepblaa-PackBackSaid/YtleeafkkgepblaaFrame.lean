/- Frames: what the program's and the document's functions come to. -/
import Derived.Test.YtleeafkkgepblaaFramePure
set_option linter.all false
set_option linter.unusedSimpArgs false
set_option maxRecDepth 100000
set_option maxHeartbeats 8000000
namespace Go.Proofs.Ytleeafkkgepblaa.Oct
open Go Go.RowKit Go.Proofs.Ytleeafkkgepblaa.Lift Go.Proofs.Ytleeafkkgepblaa.TPB Go.Proofs.Ytleeafkkgepblaa.Base Go.Proofs.Ytleeafkkgepblaa Go.Proofs.Ytleeafkkgepblaa.CrcC

theorem sb_range (s : ByteArray) : ∀ a ∈ sb s, 0 ≤ a ∧ a ≤ 255 := by
  intro a ha
  obtain ⟨b, _, rfl⟩ := List.mem_map.1 ha
  have := b.toNat_lt
  omega
theorem sb_bs (x : List Int) (h : ∀ a ∈ x, 0 ≤ a ∧ a ≤ 255) : sb (bs x) = x := by
  unfold sb
  rw [bs_data, List.map_map]
  conv => rhs; rw [← List.map_id x]
  exact List.map_congr_left fun a ha => u8_back a (h a ha)
theorem bs_inj {a b : List Int} (ha : ∀ x ∈ a, 0 ≤ x ∧ x ≤ 255) (hb : ∀ x ∈ b, 0 ≤ x ∧ x ≤ 255) (h : bs a = bs b) : a = b := by
  rw [← sb_bs a ha, h, sb_bs b hb]

/-- What is put behind bytes. -/
def putB (s : ByteArray) : List Int := if 4096 < s.size then [] else frameB (sb s)

theorem putB_len (s : ByteArray) : (putB s).length ≤ 4108 := by
  unfold putB
  split
  · simp
  · have := textB_len (sb s) (by rw [sb_length]; omega)
    rw [frameB_len]
    rw [sb_length] at this
    omega
theorem putB_range (s : ByteArray) : ∀ a ∈ putB s, 0 ≤ a ∧ a ≤ 255 := by
  unfold putB
  split
  · intro a ha; simp at ha
  · exact frameB_range (sb s) (by rw [sb_length]; omega) (sb_range s)

theorem F_Put (a : AV) (l : List Int) (ha : a = .ro 1 (enc (eInt .u8) l) false ∨ a = .ro 1 [] true ∧ l = []) (hl : l.length ≤ 100000) (s : ByteArray) : F T 30 [a, .str s] [] = some (.own 0 0 (l ++ putB s).length, [⟨5, 1, false, enc (eInt .u8) (l ++ putB s), 0⟩]) := by
  have b1 : l.length ≤ 140737488355328 := by omega
  unfold putB
  by_cases h : 4096 < s.size
  · have h' : (4096 : Int) < s.size := by omega
    rw [if_pos h, List.append_nil]
    refine F_W T30 ?_
    simp only [c30, c30_b, Lift.start]
    rcases ha with rfl | ⟨rfl, rfl⟩
    · repeat (first | refine W_assoc ?_ | (show W _ (.seq (.region _ _) _) _ _; refine W_reg (by simp; with_reducible rfl) ?_) | (show R _ _ _ (_ :: _) _ _ _ _; refine R_op (by simp (maxSteps := 2000000) [h, h', b1]; with_reducible rfl) ?_) | (show R _ _ _ [] _ _ _ _; refine R_nil (by simp; with_reducible rfl) ?_) | (show W _ (.seq (.cond _ _ _) _) _ _; first | refine W_ct (by first | (simp [h, h', b1]; done) | fail) ?_ | refine W_cf (by first | (simp [h, h', b1]; done) | fail) ?_) | refine W_skip ?_ | refine W_bl (c := .seq _ _) ?_ | refine W_bl (c := .region _ _) ?_ | refine W_bl (c := .cond _ _ _) ?_ | refine W_bl (c := .block _ _) ?_ | refine W_rt ?_ | refine W_ex ?_ | refine W_end ?_ | refine W_tail (a := .region _ _) ?_ | refine W_tail (a := .cond _ _ _) ?_ | refine W_tail (a := .ret) ?_ | refine W_tail (a := .exit _) ?_ | refine W_tail (a := .block _ _) ?_ | refine QB_normal ?_ | refine QB_exit ?_ | refine QB_ret ?_ | refine QB_out (by decide) ?_ | refine QL_next ?_ | refine QL_exit ?_ | refine QL_ret ?_ | refine QL_out (by decide) ?_ | (show Fin _ _ .ret _; exact Fin_ret (by first | (simp [c30]; done) | (simp [c30]; with_reducible rfl))) | (show Fin _ _ .normal _; exact Fin_end (by first | (simp [c30]; done) | (simp [c30]; with_reducible rfl))))
    · repeat (first | refine W_assoc ?_ | (show W _ (.seq (.region _ _) _) _ _; refine W_reg (by simp; with_reducible rfl) ?_) | (show R _ _ _ (_ :: _) _ _ _ _; refine R_op (by simp (maxSteps := 2000000) [h, h']; with_reducible rfl) ?_) | (show R _ _ _ [] _ _ _ _; refine R_nil (by simp; with_reducible rfl) ?_) | (show W _ (.seq (.cond _ _ _) _) _ _; first | refine W_ct (by first | (simp [h, h']; done) | fail) ?_ | refine W_cf (by first | (simp [h, h']; done) | fail) ?_) | refine W_skip ?_ | refine W_bl (c := .seq _ _) ?_ | refine W_bl (c := .region _ _) ?_ | refine W_bl (c := .cond _ _ _) ?_ | refine W_bl (c := .block _ _) ?_ | refine W_rt ?_ | refine W_ex ?_ | refine W_end ?_ | refine W_tail (a := .region _ _) ?_ | refine W_tail (a := .cond _ _ _) ?_ | refine W_tail (a := .ret) ?_ | refine W_tail (a := .exit _) ?_ | refine W_tail (a := .block _ _) ?_ | refine QB_normal ?_ | refine QB_exit ?_ | refine QB_ret ?_ | refine QB_out (by decide) ?_ | refine QL_next ?_ | refine QL_exit ?_ | refine QL_ret ?_ | refine QL_out (by decide) ?_ | (show Fin _ _ .ret _; exact Fin_ret (by first | (simp [c30]; done) | (simp [c30]; with_reducible rfl))) | (show Fin _ _ .normal _; exact Fin_end (by first | (simp [c30]; done) | (simp [c30]; with_reducible rfl))))
  · have h' : ¬ (4096 : Int) < s.size := by omega
    rw [if_neg h]
    have f1 := F_Text [] s (by simp) (by omega)
    simp only [enc_nil, List.nil_append] at f1
    have hr := textB_range (sb s) (by rw [sb_length]; omega) (sb_range s)
    have hl2 := textB_len (sb s) (by rw [sb_length]; omega)
    rw [sb_length] at hl2
    rw [show numB s.size ++ sb s = textB (sb s) by unfold textB; rw [sb_length]] at f1
    have f2 := F_Seal (textB (sb s)) (by omega) hr
    rw [show textB (sb s) ++ Crc.four (Crc.crc (textB (sb s))) = frameB (sb s) from rfl] at f2
    have h3 := frameB_len (sb s)
    generalize textB (sb s) = t at *
    generalize frameB (sb s) = z at *
    have b2 : l.length + z.length ≤ 140737488355328 := by omega
    have b3 : ¬ (l.length + z.length ≤ l.length) := by omega
    have b4 : z.length ≤ 140737488355328 := by omega
    have hz : z ≠ [] := by rintro rfl; simp at h3
    have hzl : z.length ≠ 0 := by omega
    refine F_W T30 ?_
    simp only [c30, c30_b, Lift.start]
    rcases ha with rfl | ⟨rfl, rfl⟩
    · repeat (first | refine W_assoc ?_ | (show W _ (.seq (.region _ _) _) _ _; refine W_reg (by simp; with_reducible rfl) ?_) | (show R _ _ _ (_ :: _) _ _ _ _; refine R_op (by simp (maxSteps := 2000000) [h, h', b1, b2, b3, hz, f1, f2]; with_reducible rfl) ?_) | (show R _ _ _ [] _ _ _ _; refine R_nil (by simp; with_reducible rfl) ?_) | (show W _ (.seq (.cond _ _ _) _) _ _; first | refine W_ct (by first | (simp [h, h', b1, b2, b3, hz, f1, f2]; done) | fail) ?_ | refine W_cf (by first | (simp [h, h', b1, b2, b3, hz, f1, f2]; done) | fail) ?_) | refine W_skip ?_ | refine W_bl (c := .seq _ _) ?_ | refine W_bl (c := .region _ _) ?_ | refine W_bl (c := .cond _ _ _) ?_ | refine W_bl (c := .block _ _) ?_ | refine W_rt ?_ | refine W_ex ?_ | refine W_end ?_ | refine W_tail (a := .region _ _) ?_ | refine W_tail (a := .cond _ _ _) ?_ | refine W_tail (a := .ret) ?_ | refine W_tail (a := .exit _) ?_ | refine W_tail (a := .block _ _) ?_ | refine QB_normal ?_ | refine QB_exit ?_ | refine QB_ret ?_ | refine QB_out (by decide) ?_ | refine QL_next ?_ | refine QL_exit ?_ | refine QL_ret ?_ | refine QL_out (by decide) ?_ | (show Fin _ _ .ret _; exact Fin_ret (by first | (simp [c30]; done) | (simp [c30]; with_reducible rfl))) | (show Fin _ _ .normal _; exact Fin_end (by first | (simp [c30]; done) | (simp [c30]; with_reducible rfl))))
    · repeat (first | refine W_assoc ?_ | (show W _ (.seq (.region _ _) _) _ _; refine W_reg (by simp; with_reducible rfl) ?_) | (show R _ _ _ (_ :: _) _ _ _ _; refine R_op (by simp (maxSteps := 2000000) [h, h', b4, hz, hzl, f1, f2]; with_reducible rfl) ?_) | (show R _ _ _ [] _ _ _ _; refine R_nil (by simp; with_reducible rfl) ?_) | (show W _ (.seq (.cond _ _ _) _) _ _; first | refine W_ct (by first | (simp [h, h', b4, hz, hzl, f1, f2]; done) | fail) ?_ | refine W_cf (by first | (simp [h, h', b4, hz, hzl, f1, f2]; done) | fail) ?_) | refine W_skip ?_ | refine W_bl (c := .seq _ _) ?_ | refine W_bl (c := .region _ _) ?_ | refine W_bl (c := .cond _ _ _) ?_ | refine W_bl (c := .block _ _) ?_ | refine W_rt ?_ | refine W_ex ?_ | refine W_end ?_ | refine W_tail (a := .region _ _) ?_ | refine W_tail (a := .cond _ _ _) ?_ | refine W_tail (a := .ret) ?_ | refine W_tail (a := .exit _) ?_ | refine W_tail (a := .block _ _) ?_ | refine QB_normal ?_ | refine QB_exit ?_ | refine QB_ret ?_ | refine QB_out (by decide) ?_ | refine QL_next ?_ | refine QL_exit ?_ | refine QL_ret ?_ | refine QL_out (by decide) ?_ | (show Fin _ _ .ret _; exact Fin_ret (by first | (simp [c30]; done) | (simp [c30]; with_reducible rfl))) | (show Fin _ _ .normal _; exact Fin_end (by first | (simp [c30]; done) | (simp [c30]; with_reducible rfl))))

theorem F_Cut (l : List Int) (hb : ∀ a ∈ l, 0 ≤ a ∧ a ≤ 255) (hl : l.length ≤ 4112) : F T 18 [.ro 1 (enc (eInt .u8) l) false] [] = some (.tup [.str (bs (cutP l).1), .int .i64 (cutP l).2.1, .int .i64 (cutP l).2.2], []) := by
  have hI : InR l 0 l.length := ⟨hb, by omega, by omega⟩
  have f1 := F_New _ l (.inl rfl) (by omega)
  have f2 := F_RText hI 0 4096
  rw [List.drop_zero] at f2
  have hk := rdT_ok' l 4096 hb
  have hmin : ¬ (4112 : Int) < l.length := by omega
  unfold cutP
  generalize hq : rdT l 0 4096 = q at *
  obtain ⟨p, k, e⟩ := q
  simp only [Nat.zero_add] at f2 hk ⊢
  have f3 := F_RLeft l k (l.length - k) e
  have f4 := F_RErr l k (l.length - k) e
  have w1 : IntKind.i64.wrap ((l.length : Int) - ((l.length - k : Nat) : Int)) = (k : Int) := by rw [wrap_id _ (by omega) (by omega)]; omega
  have hmm : (l.length : Int) ≤ 4112 := by omega
  refine F_W T18 ?_
  simp only [c18, c18_b, Lift.start]
  by_cases he : e = 0
  · subst he
    rw [if_neg (by simp)]
    have w2 : IntKind.i64.wrap ((l.length : Int) - k) = (l.length : Int) - k := wrap_id _ (by omega) (by omega)
    by_cases h4 : l.length < k + 4
    · have h4' : (l.length : Int) - k < 4 := by omega
      rw [if_pos h4]
      repeat (first | refine W_assoc ?_ | (show W _ (.seq (.region _ _) _) _ _; refine W_reg (by simp; with_reducible rfl) ?_) | (show R _ _ _ (_ :: _) _ _ _ _; refine R_op (by simp (maxSteps := 2000000) [hmin, hmm, f1, f2, f3, f4, w1, w2, h4']; with_reducible rfl) ?_) | (show R _ _ _ [] _ _ _ _; refine R_nil (by simp; with_reducible rfl) ?_) | (show W _ (.seq (.cond _ _ _) _) _ _; first | refine W_ct (by first | (simp [hmin, hmm, f1, f2, f3, f4, w1, w2, h4']; done) | fail) ?_ | refine W_cf (by first | (simp [hmin, hmm, f1, f2, f3, f4, w1, w2, h4']; done) | fail) ?_) | refine W_skip ?_ | refine W_bl (c := .seq _ _) ?_ | refine W_bl (c := .region _ _) ?_ | refine W_bl (c := .cond _ _ _) ?_ | refine W_bl (c := .block _ _) ?_ | refine W_rt ?_ | refine W_ex ?_ | refine W_end ?_ | refine W_tail (a := .region _ _) ?_ | refine W_tail (a := .cond _ _ _) ?_ | refine W_tail (a := .ret) ?_ | refine W_tail (a := .exit _) ?_ | refine W_tail (a := .block _ _) ?_ | refine QB_normal ?_ | refine QB_exit ?_ | refine QB_ret ?_ | refine QB_out (by decide) ?_ | refine QL_next ?_ | refine QL_exit ?_ | refine QL_ret ?_ | refine QL_out (by decide) ?_ | (show Fin _ _ .ret _; exact Fin_ret (by first | (simp [c18, bs0]; done) | (simp [c18, bs0]; with_reducible rfl))) | (show Fin _ _ .normal _; exact Fin_end (by first | (simp [c18, bs0]; done) | (simp [c18, bs0]; with_reducible rfl))))
    · have h4' : ¬ (l.length : Int) - k < 4 := by omega
      rw [if_neg h4]
      have w3 : IntKind.i64.wrap ((k : Int) + 4) = ((k + 4 : Nat) : Int) := by rw [wrap_id _ (by omega) (by omega)]; omega
      have w3' : IntKind.i64.wrap ((k : Int) + 4) = (k : Int) + 4 := wrap_id _ (by omega) (by omega)
      have h5 : k + 4 ≤ l.length := by omega
      have h5' : (k : Int) + 4 ≤ l.length := by omega
      have h6 : (0 : Int) ≤ (k : Int) + 4 := by omega
      have h7 : ((k : Int) + 4).toNat = k + 4 := by omega
      have f5' := F_Open (l.take (k + 4)) (by simp; omega) (fun a ha => hb a (List.mem_of_mem_take ha))
      by_cases hs : sealed (l.take (k + 4)) = true
      · rw [if_pos hs] at f5' ⊢
        have f5 := FV_of f5'
        clear f5'
        simp at f5
        generalize hlt : l.take (k + 4) = lt at *
        repeat (first | refine W_assoc ?_ | (show W _ (.seq (.region _ _) _) _ _; refine W_reg (by simp; with_reducible rfl) ?_) | (show R _ _ _ (_ :: _) _ _ _ _; refine R_op (by simp (maxSteps := 2000000) [hmin, hmm, f1, f2, f3, f4, w1, w2, w3', h4', h5, h5', h6, h7, hlt, f5]; with_reducible rfl) ?_) | (show R _ _ _ [] _ _ _ _; refine R_nil (by simp; with_reducible rfl) ?_) | (show W _ (.seq (.cond _ _ _) _) _ _; first | refine W_ct (by first | (simp [hmin, hmm, f1, f2, f3, f4, w1, w2, w3', h4', h5, h5', h6, h7, hlt, f5]; done) | fail) ?_ | refine W_cf (by first | (simp [hmin, hmm, f1, f2, f3, f4, w1, w2, w3', h4', h5, h5', h6, h7, hlt, f5]; done) | fail) ?_) | refine W_skip ?_ | refine W_bl (c := .seq _ _) ?_ | refine W_bl (c := .region _ _) ?_ | refine W_bl (c := .cond _ _ _) ?_ | refine W_bl (c := .block _ _) ?_ | refine W_rt ?_ | refine W_ex ?_ | refine W_end ?_ | refine W_tail (a := .region _ _) ?_ | refine W_tail (a := .cond _ _ _) ?_ | refine W_tail (a := .ret) ?_ | refine W_tail (a := .exit _) ?_ | refine W_tail (a := .block _ _) ?_ | refine QB_normal ?_ | refine QB_exit ?_ | refine QB_ret ?_ | refine QB_out (by decide) ?_ | refine QL_next ?_ | refine QL_exit ?_ | refine QL_ret ?_ | refine QL_out (by decide) ?_ | (show Fin _ _ .ret _; exact Fin_ret (by first | (simp [c18, w3']; done) | (simp [c18, w3']; with_reducible rfl))) | (show Fin _ _ .normal _; exact Fin_end (by first | (simp [c18, w3']; done) | (simp [c18, w3']; with_reducible rfl))))
      · rw [if_neg hs] at f5' ⊢
        have f5 := FV_of f5'
        clear f5'
        simp at f5
        generalize hlt : l.take (k + 4) = lt at *
        repeat (first | refine W_assoc ?_ | (show W _ (.seq (.region _ _) _) _ _; refine W_reg (by simp; with_reducible rfl) ?_) | (show R _ _ _ (_ :: _) _ _ _ _; refine R_op (by simp (maxSteps := 2000000) [hmin, hmm, f1, f2, f3, f4, w1, w2, w3', h4', h5, h5', h6, h7, hlt, f5]; with_reducible rfl) ?_) | (show R _ _ _ [] _ _ _ _; refine R_nil (by simp; with_reducible rfl) ?_) | (show W _ (.seq (.cond _ _ _) _) _ _; first | refine W_ct (by first | (simp [hmin, hmm, f1, f2, f3, f4, w1, w2, w3', h4', h5, h5', h6, h7, hlt, f5]; done) | fail) ?_ | refine W_cf (by first | (simp [hmin, hmm, f1, f2, f3, f4, w1, w2, w3', h4', h5, h5', h6, h7, hlt, f5]; done) | fail) ?_) | refine W_skip ?_ | refine W_bl (c := .seq _ _) ?_ | refine W_bl (c := .region _ _) ?_ | refine W_bl (c := .cond _ _ _) ?_ | refine W_bl (c := .block _ _) ?_ | refine W_rt ?_ | refine W_ex ?_ | refine W_end ?_ | refine W_tail (a := .region _ _) ?_ | refine W_tail (a := .cond _ _ _) ?_ | refine W_tail (a := .ret) ?_ | refine W_tail (a := .exit _) ?_ | refine W_tail (a := .block _ _) ?_ | refine QB_normal ?_ | refine QB_exit ?_ | refine QB_ret ?_ | refine QB_out (by decide) ?_ | refine QL_next ?_ | refine QL_exit ?_ | refine QL_ret ?_ | refine QL_out (by decide) ?_ | (show Fin _ _ .ret _; exact Fin_ret (by first | (simp [c18, bs0]; done) | (simp [c18, bs0]; with_reducible rfl))) | (show Fin _ _ .normal _; exact Fin_end (by first | (simp [c18, bs0]; done) | (simp [c18, bs0]; with_reducible rfl))))
  · rw [if_pos he]
    repeat (first | refine W_assoc ?_ | (show W _ (.seq (.region _ _) _) _ _; refine W_reg (by simp; with_reducible rfl) ?_) | (show R _ _ _ (_ :: _) _ _ _ _; refine R_op (by simp (maxSteps := 2000000) [hmin, hmm, f1, f2, f3, f4, w1, he]; with_reducible rfl) ?_) | (show R _ _ _ [] _ _ _ _; refine R_nil (by simp; with_reducible rfl) ?_) | (show W _ (.seq (.cond _ _ _) _) _ _; first | refine W_ct (by first | (simp [hmin, hmm, f1, f2, f3, f4, w1, he]; done) | fail) ?_ | refine W_cf (by first | (simp [hmin, hmm, f1, f2, f3, f4, w1, he]; done) | fail) ?_) | refine W_skip ?_ | refine W_bl (c := .seq _ _) ?_ | refine W_bl (c := .region _ _) ?_ | refine W_bl (c := .cond _ _ _) ?_ | refine W_bl (c := .block _ _) ?_ | refine W_rt ?_ | refine W_ex ?_ | refine W_end ?_ | refine W_tail (a := .region _ _) ?_ | refine W_tail (a := .cond _ _ _) ?_ | refine W_tail (a := .ret) ?_ | refine W_tail (a := .exit _) ?_ | refine W_tail (a := .block _ _) ?_ | refine QB_normal ?_ | refine QB_exit ?_ | refine QB_ret ?_ | refine QB_out (by decide) ?_ | refine QL_next ?_ | refine QL_exit ?_ | refine QL_ret ?_ | refine QL_out (by decide) ?_ | (show Fin _ _ .ret _; exact Fin_ret (by first | (simp [c18, bs0]; done) | (simp [c18, bs0]; with_reducible rfl))) | (show Fin _ _ .normal _; exact Fin_end (by first | (simp [c18, bs0]; done) | (simp [c18, bs0]; with_reducible rfl))))

end Go.Proofs.Ytleeafkkgepblaa.Oct
