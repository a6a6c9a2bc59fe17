/- Numbers and texts are read as they were put, and were put as they are read. -/
import Derived.Test.YteljepckjaoebaaOctRead
import Derived.Test.YteljepckjaoebaaMsgPure
set_option linter.all false
set_option linter.unusedSimpArgs false
set_option maxRecDepth 100000
set_option maxHeartbeats 4000000
namespace Go.Proofs.Yteljepckjaoebaa.Oct
open Go Go.RowKit Go.Proofs.Yteljepckjaoebaa.Lift Go.Proofs.Yteljepckjaoebaa.TOB Go.Proofs.Yteljepckjaoebaa.Base

theorem V_works01 : FV (F T) 4 [] = some (.bool true) := by
  have hw : F T 4 [] [] = some (.bool true, []) := F_iff.2 ⟨20, by kernel_rfl⟩
  have h := FV_of hw
  simpa using h

theorem rdT_put (p rest : List Int) (h : p.length < 72057594037927936) : rdT (numB p.length ++ p ++ rest) 0 p.length = (p, (numB p.length).length + p.length, 0) := by
  unfold rdT
  rw [if_neg (by simp), List.append_assoc, nxt_num p.length (p ++ rest) p.length h (by omega)]
  simp
  omega

theorem sb_rg (s : ByteArray) : ∀ a ∈ sb s, 0 ≤ a ∧ a ≤ 255 := by
  intro a ha
  obtain ⟨b, _, rfl⟩ := List.mem_map.1 ha
  have := b.toNat_lt
  omega

theorem back (n : Int) (s : ByteArray) (more : List Int) (hm : ∀ a ∈ more, 0 ≤ a ∧ a ≤ 255) : F T 3 [.int .i64 n, .str s, .ro 1 (enc (eInt .u8) more) false] [] = some (.bool true, []) := by
  refine F_W T3 ?_
  simp only [c3, c3_b, Lift.start]
  by_cases h1 : n < 0
  · repeat (first | refine W_assoc ?_ | (show W _ (.seq (.region _ _) _) _ _; refine W_reg (by simp; with_reducible rfl) ?_) | (show R _ _ _ (_ :: _) _ _ _ _; refine R_op (by simp (maxSteps := 2000000) [h1, V_works01]; with_reducible rfl) ?_) | (show R _ _ _ [] _ _ _ _; refine R_nil (by simp; with_reducible rfl) ?_) | (show W _ (.seq (.cond _ _ _) _) _ _; first | refine W_ct (by first | (simp [h1, V_works01]; done) | fail) ?_ | refine W_cf (by first | (simp [h1, V_works01]; done) | fail) ?_) | refine W_skip ?_ | refine W_bl (c := .seq _ _) ?_ | refine W_bl (c := .region _ _) ?_ | refine W_bl (c := .cond _ _ _) ?_ | refine W_bl (c := .block _ _) ?_ | refine W_rt ?_ | refine W_ex ?_ | refine W_end ?_ | refine W_tail (a := .region _ _) ?_ | refine W_tail (a := .cond _ _ _) ?_ | refine W_tail (a := .ret) ?_ | refine W_tail (a := .exit _) ?_ | refine W_tail (a := .block _ _) ?_ | refine QB_normal ?_ | refine QB_exit ?_ | refine QB_ret ?_ | refine QB_out (by decide) ?_ | refine QL_next ?_ | refine QL_exit ?_ | refine QL_ret ?_ | refine QL_out (by decide) ?_ | (show Fin _ _ .ret _; exact Fin_ret (by first | (simp [c3]; done) | (simp [c3]; with_reducible rfl))) | (show Fin _ _ .normal _; exact Fin_end (by first | (simp [c3]; done) | (simp [c3]; with_reducible rfl))))
  by_cases h2 : 72057594037927935 < n
  · repeat (first | refine W_assoc ?_ | (show W _ (.seq (.region _ _) _) _ _; refine W_reg (by simp; with_reducible rfl) ?_) | (show R _ _ _ (_ :: _) _ _ _ _; refine R_op (by simp (maxSteps := 2000000) [h1, h2, V_works01]; with_reducible rfl) ?_) | (show R _ _ _ [] _ _ _ _; refine R_nil (by simp; with_reducible rfl) ?_) | (show W _ (.seq (.cond _ _ _) _) _ _; first | refine W_ct (by first | (simp [h1, h2, V_works01]; done) | fail) ?_ | refine W_cf (by first | (simp [h1, h2, V_works01]; done) | fail) ?_) | refine W_skip ?_ | refine W_bl (c := .seq _ _) ?_ | refine W_bl (c := .region _ _) ?_ | refine W_bl (c := .cond _ _ _) ?_ | refine W_bl (c := .block _ _) ?_ | refine W_rt ?_ | refine W_ex ?_ | refine W_end ?_ | refine W_tail (a := .region _ _) ?_ | refine W_tail (a := .cond _ _ _) ?_ | refine W_tail (a := .ret) ?_ | refine W_tail (a := .exit _) ?_ | refine W_tail (a := .block _ _) ?_ | refine QB_normal ?_ | refine QB_exit ?_ | refine QB_ret ?_ | refine QB_out (by decide) ?_ | refine QL_next ?_ | refine QL_exit ?_ | refine QL_ret ?_ | refine QL_out (by decide) ?_ | (show Fin _ _ .ret _; exact Fin_ret (by first | (simp [c3]; done) | (simp [c3]; with_reducible rfl))) | (show Fin _ _ .normal _; exact Fin_end (by first | (simp [c3]; done) | (simp [c3]; with_reducible rfl))))
  by_cases h3 : 1000 < s.size
  · have h3' : (1000 : Int) < s.size := by omega
    repeat (first | refine W_assoc ?_ | (show W _ (.seq (.region _ _) _) _ _; refine W_reg (by simp; with_reducible rfl) ?_) | (show R _ _ _ (_ :: _) _ _ _ _; refine R_op (by simp (maxSteps := 2000000) [h1, h2, h3, h3', V_works01]; with_reducible rfl) ?_) | (show R _ _ _ [] _ _ _ _; refine R_nil (by simp; with_reducible rfl) ?_) | (show W _ (.seq (.cond _ _ _) _) _ _; first | refine W_ct (by first | (simp [h1, h2, h3, h3', V_works01]; done) | fail) ?_ | refine W_cf (by first | (simp [h1, h2, h3, h3', V_works01]; done) | fail) ?_) | refine W_skip ?_ | refine W_bl (c := .seq _ _) ?_ | refine W_bl (c := .region _ _) ?_ | refine W_bl (c := .cond _ _ _) ?_ | refine W_bl (c := .block _ _) ?_ | refine W_rt ?_ | refine W_ex ?_ | refine W_end ?_ | refine W_tail (a := .region _ _) ?_ | refine W_tail (a := .cond _ _ _) ?_ | refine W_tail (a := .ret) ?_ | refine W_tail (a := .exit _) ?_ | refine W_tail (a := .block _ _) ?_ | refine QB_normal ?_ | refine QB_exit ?_ | refine QB_ret ?_ | refine QB_out (by decide) ?_ | refine QL_next ?_ | refine QL_exit ?_ | refine QL_ret ?_ | refine QL_out (by decide) ?_ | (show Fin _ _ .ret _; exact Fin_ret (by first | (simp [c3]; done) | (simp [c3]; with_reducible rfl))) | (show Fin _ _ .normal _; exact Fin_end (by first | (simp [c3]; done) | (simp [c3]; with_reducible rfl))))
  have h3' : ¬ (1000 : Int) < s.size := by omega
  by_cases h4 : 1000 < more.length
  · have h4' : (1000 : Int) < more.length := by omega
    repeat (first | refine W_assoc ?_ | (show W _ (.seq (.region _ _) _) _ _; refine W_reg (by simp; with_reducible rfl) ?_) | (show R _ _ _ (_ :: _) _ _ _ _; refine R_op (by simp (maxSteps := 2000000) [h1, h2, h3, h3', h4, h4', V_works01]; with_reducible rfl) ?_) | (show R _ _ _ [] _ _ _ _; refine R_nil (by simp; with_reducible rfl) ?_) | (show W _ (.seq (.cond _ _ _) _) _ _; first | refine W_ct (by first | (simp [h1, h2, h3, h3', h4, h4', V_works01]; done) | fail) ?_ | refine W_cf (by first | (simp [h1, h2, h3, h3', h4, h4', V_works01]; done) | fail) ?_) | refine W_skip ?_ | refine W_bl (c := .seq _ _) ?_ | refine W_bl (c := .region _ _) ?_ | refine W_bl (c := .cond _ _ _) ?_ | refine W_bl (c := .block _ _) ?_ | refine W_rt ?_ | refine W_ex ?_ | refine W_end ?_ | refine W_tail (a := .region _ _) ?_ | refine W_tail (a := .cond _ _ _) ?_ | refine W_tail (a := .ret) ?_ | refine W_tail (a := .exit _) ?_ | refine W_tail (a := .block _ _) ?_ | refine QB_normal ?_ | refine QB_exit ?_ | refine QB_ret ?_ | refine QB_out (by decide) ?_ | refine QL_next ?_ | refine QL_exit ?_ | refine QL_ret ?_ | refine QL_out (by decide) ?_ | (show Fin _ _ .ret _; exact Fin_ret (by first | (simp [c3]; done) | (simp [c3]; with_reducible rfl))) | (show Fin _ _ .normal _; exact Fin_end (by first | (simp [c3]; done) | (simp [c3]; with_reducible rfl))))
  have h4' : ¬ (1000 : Int) < more.length := by omega
  obtain ⟨k, rfl⟩ := Int.eq_ofNat_of_zero_le (show 0 ≤ n by omega)
  have fn := F_Num 1 false [] k (.inl rfl) (by simp)
  have hck : clampN (k : Int) = k := by simp only [clampN]; omega
  rw [hck, List.nil_append, enc_nil] at fn
  have hk8 := numB_len k (by omega)
  have hs8 := numB_len s.size (by omega)
  have ft := F_Text (numB k) s (by omega) (by omega)
  obtain ⟨B, hB⟩ : ∃ B, B = numB k ++ numB s.size ++ sb s := ⟨_, rfl⟩
  have hBl : B.length = (numB k).length + (numB s.size).length + s.size := by rw [hB]; simp [sb_length]; omega
  rw [← hB] at ft
  have hBr : ∀ a ∈ B, 0 ≤ a ∧ a ≤ 255 := by
    intro a ha
    rw [hB] at ha
    simp only [List.mem_append] at ha
    rcases ha with (ha | ha) | ha
    · exact numB_range k (by omega) a ha
    · exact numB_range s.size (by omega) a ha
    · exact sb_rg s a ha
  obtain ⟨X, hX⟩ : ∃ X, X = B ++ more := ⟨_, rfl⟩
  have hXl : X.length = B.length + more.length := by rw [hX]; simp
  have hXr : ∀ a ∈ X, 0 ≤ a ∧ a ≤ 255 := by
    intro a ha
    rw [hX] at ha
    exact (List.mem_append.1 ha).elim (hBr a) (hm a)
  have fw := F_New _ X (.inl rfl) (by omega)
  have hI0 : InR X 0 X.length := ⟨hXr, by omega, by omega⟩
  have f1 := F_RNum hI0 0 k
  have hX2 : X = numB k ++ (numB s.size ++ sb s ++ more) := by rw [hX, hB]; simp
  rw [List.drop_zero, show rdN X 0 (k : Int) = ((k : Int), (numB k).length, 0) by rw [hX2]; exact rdN_num k _ k (by omega) (by omega) (by omega)] at f1
  simp only [Nat.zero_add] at f1
  have hI1 : InR X (numB k).length (X.length - (numB k).length) := ⟨hXr, by omega, by omega⟩
  have f2 := F_RText hI1 0 s.size
  have hd : X.drop (numB k).length = numB s.size ++ sb s ++ more := by rw [hX2]; simp
  have hrt : rdT (X.drop (numB k).length) 0 (s.size : Int) = (sb s, (numB s.size).length + s.size, 0) := by
    have := rdT_put (sb s) more (by rw [sb_length]; omega)
    rw [sb_length] at this
    rw [hd]; exact this
  rw [hrt] at f2
  simp only [bs_sb] at f2
  have hl : X.length - (numB k).length - ((numB s.size).length + s.size) = more.length := by omega
  rw [hl] at f2
  have f3 := F_RErr X ((numB k).length + ((numB s.size).length + s.size)) more.length 0
  have f4 := F_RLeft X ((numB k).length + ((numB s.size).length + s.size)) more.length 0
  have hI2 : InR more 0 more.length := ⟨hm, by omega, by omega⟩
  have g0 := F_New _ more (.inl rfl) (by omega)
  have g1 := F_RNum hI2 0 72057594037927935
  rw [List.drop_zero] at g1
  simp only [Nat.zero_add] at g1
  have hb := rdN_back more 0 72057594037927935 (by omega) hm
  have hle : (rdN more 0 72057594037927935).2.1 ≤ more.length := by
    have h1 := nxt_ok more 72057594037927935 hm
    unfold rdN
    split
    · simp
    · split
      · simp
      · rename_i h; exact (h1 (by simpa using h)).2.1
  have hz : ¬ (rdN more 0 72057594037927935).2.2 = 0 → (rdN more 0 72057594037927935).2.1 = 0 := by
    unfold rdN
    split
    · simp
    · split <;> simp
  generalize rdN more 0 72057594037927935 = q at *
  obtain ⟨y, c, e⟩ := q
  simp only [] at g1 hb hle hz
  have g2 := F_RErr more c (more.length - c) e
  have g3 := F_RLeft more c (more.length - c) e
  have a1 : B.length ≤ 140737488355328 := by omega
  have a2 : B.length + more.length ≤ 140737488355328 := by omega
  have a3 : X.length ≤ 140737488355328 := by omega
  have a0 : 0 < B.length := by
    have : 1 ≤ (numB k).length := by unfold numB; split <;> simp
    omega
  have hnb : ∀ m, 1 ≤ (numB m).length := by intro m; unfold numB; split <;> simp
  have wc : IntKind.i64.wrap ((more.length : Int) - ((more.length - c : Nat) : Int)) = c := by rw [wrap_id _ (by omega) (by omega)]; omega
  have w0 : IntKind.i64.wrap 0 = 0 := rfl
  by_cases hm0 : more = []
  · have he : ¬ e = 0 := by
      intro he
      have h5 := congrArg List.length (hb he).2.1
      subst hm0
      have := hnb y.toNat
      simp at h5
      omega
    have hc0 := hz he
    subst hm0
    subst hc0
    rw [List.append_nil] at hX
    subst hX
    simp only [rr, rv, List.length_nil, enc_nil, Nat.sub_zero, Nat.zero_sub] at *
    repeat (first | refine W_assoc ?_ | (show W _ (.seq (.region _ _) _) _ _; refine W_reg (by simp; with_reducible rfl) ?_) | (show R _ _ _ (_ :: _) _ _ _ _; refine R_op (by simp (maxSteps := 2000000) [h1, h2, h3, h3', fn, ft, a0, a1, fw, f1, f2, f3, f4, g0, g1, g2, g3, he, w0, V_works01]; with_reducible rfl) ?_) | (show R _ _ _ [] _ _ _ _; refine R_nil (by simp; with_reducible rfl) ?_) | (show W _ (.seq (.cond _ _ _) _) _ _; first | refine W_ct (by first | (simp [h1, h2, h3, h3', fn, ft, a0, a1, fw, f1, f2, f3, f4, g0, g1, g2, g3, he, w0, V_works01]; done) | fail) ?_ | refine W_cf (by first | (simp [h1, h2, h3, h3', fn, ft, a0, a1, fw, f1, f2, f3, f4, g0, g1, g2, g3, he, w0, V_works01]; done) | fail) ?_) | refine W_skip ?_ | refine W_bl (c := .seq _ _) ?_ | refine W_bl (c := .region _ _) ?_ | refine W_bl (c := .cond _ _ _) ?_ | refine W_bl (c := .block _ _) ?_ | refine W_rt ?_ | refine W_ex ?_ | refine W_end ?_ | refine W_tail (a := .region _ _) ?_ | refine W_tail (a := .cond _ _ _) ?_ | refine W_tail (a := .ret) ?_ | refine W_tail (a := .exit _) ?_ | refine W_tail (a := .block _ _) ?_ | refine QB_normal ?_ | refine QB_exit ?_ | refine QB_ret ?_ | refine QB_out (by decide) ?_ | refine QL_next ?_ | refine QL_exit ?_ | refine QL_ret ?_ | refine QL_out (by decide) ?_ | (show Fin _ _ .ret _; exact Fin_ret (by first | (simp [c3]; done) | (simp [c3]; with_reducible rfl))) | (show Fin _ _ .normal _; exact Fin_end (by first | (simp [c3]; done) | (simp [c3]; with_reducible rfl))))
  have a4 : ¬ B.length + more.length ≤ B.length := by
    have := List.length_pos_iff.2 hm0
    omega
  have a5 : ¬ X.length ≤ B.length := by omega
  by_cases he : e = 0
  · obtain ⟨-, hmo, hy0, hyM⟩ := hb he
    subst he
    have hcl : clampN y = y.toNat := by simp only [clampN]; omega
    have htk : more.take c = numB y.toNat := by
      have h5 := congrArg List.length hmo
      rw [List.length_append, List.length_drop] at h5
      have h6 : (numB y.toNat).length = c := by omega
      conv => lhs; rw [hmo, ← h6]
      simp
    have fy := F_Num 1 false [] y (.inl rfl) (by simp)
    rw [hcl, List.nil_append, enc_nil] at fy
    have i1 : ¬ (c : Int) < 0 := by omega
    have i2 : ¬ (more.length : Int) < c := by omega
    have i3 : (c : Int) ≤ more.length := by omega
    repeat (first | refine W_assoc ?_ | (show W _ (.seq (.region _ _) _) _ _; refine W_reg (by simp; with_reducible rfl) ?_) | (show R _ _ _ (_ :: _) _ _ _ _; refine R_op (by simp (maxSteps := 2000000) [h1, h2, h3, h3', h4, h4', fn, ft, hm0, a0, a1, a2, a3, a4, a5, ← hX, ← hXl, fw, f1, f2, f3, f4, g0, g1, g2, g3, wc, fy, htk, i1, i2, i3, hle, V_works01]; with_reducible rfl) ?_) | (show R _ _ _ [] _ _ _ _; refine R_nil (by simp; with_reducible rfl) ?_) | (show W _ (.seq (.cond _ _ _) _) _ _; first | refine W_ct (by first | (simp [h1, h2, h3, h3', h4, h4', fn, ft, hm0, a0, a1, a2, a3, a4, a5, ← hX, ← hXl, fw, f1, f2, f3, f4, g0, g1, g2, g3, wc, fy, htk, i1, i2, i3, hle, V_works01]; done) | fail) ?_ | refine W_cf (by first | (simp [h1, h2, h3, h3', h4, h4', fn, ft, hm0, a0, a1, a2, a3, a4, a5, ← hX, ← hXl, fw, f1, f2, f3, f4, g0, g1, g2, g3, wc, fy, htk, i1, i2, i3, hle, V_works01]; done) | fail) ?_) | refine W_skip ?_ | refine W_bl (c := .seq _ _) ?_ | refine W_bl (c := .region _ _) ?_ | refine W_bl (c := .cond _ _ _) ?_ | refine W_bl (c := .block _ _) ?_ | refine W_rt ?_ | refine W_ex ?_ | refine W_end ?_ | refine W_tail (a := .region _ _) ?_ | refine W_tail (a := .cond _ _ _) ?_ | refine W_tail (a := .ret) ?_ | refine W_tail (a := .exit _) ?_ | refine W_tail (a := .block _ _) ?_ | refine QB_normal ?_ | refine QB_exit ?_ | refine QB_ret ?_ | refine QB_out (by decide) ?_ | refine QL_next ?_ | refine QL_exit ?_ | refine QL_ret ?_ | refine QL_out (by decide) ?_ | (show Fin _ _ .ret _; exact Fin_ret (by first | (simp [c3]; done) | (simp [c3]; with_reducible rfl))) | (show Fin _ _ .normal _; exact Fin_end (by first | (simp [c3]; done) | (simp [c3]; with_reducible rfl))))
  · obtain rfl := hz he
    rw [Nat.sub_zero] at g1 g2 g3 wc
    repeat (first | refine W_assoc ?_ | (show W _ (.seq (.region _ _) _) _ _; refine W_reg (by simp; with_reducible rfl) ?_) | (show R _ _ _ (_ :: _) _ _ _ _; refine R_op (by simp (maxSteps := 2000000) [h1, h2, h3, h3', h4, h4', fn, ft, hm0, a0, a1, a2, a3, a4, a5, ← hX, ← hXl, fw, f1, f2, f3, f4, g0, g1, g2, g3, he, w0, V_works01]; with_reducible rfl) ?_) | (show R _ _ _ [] _ _ _ _; refine R_nil (by simp; with_reducible rfl) ?_) | (show W _ (.seq (.cond _ _ _) _) _ _; first | refine W_ct (by first | (simp [h1, h2, h3, h3', h4, h4', fn, ft, hm0, a0, a1, a2, a3, a4, a5, ← hX, ← hXl, fw, f1, f2, f3, f4, g0, g1, g2, g3, he, w0, V_works01]; done) | fail) ?_ | refine W_cf (by first | (simp [h1, h2, h3, h3', h4, h4', fn, ft, hm0, a0, a1, a2, a3, a4, a5, ← hX, ← hXl, fw, f1, f2, f3, f4, g0, g1, g2, g3, he, w0, V_works01]; done) | fail) ?_) | refine W_skip ?_ | refine W_bl (c := .seq _ _) ?_ | refine W_bl (c := .region _ _) ?_ | refine W_bl (c := .cond _ _ _) ?_ | refine W_bl (c := .block _ _) ?_ | refine W_rt ?_ | refine W_ex ?_ | refine W_end ?_ | refine W_tail (a := .region _ _) ?_ | refine W_tail (a := .cond _ _ _) ?_ | refine W_tail (a := .ret) ?_ | refine W_tail (a := .exit _) ?_ | refine W_tail (a := .block _ _) ?_ | refine QB_normal ?_ | refine QB_exit ?_ | refine QB_ret ?_ | refine QB_out (by decide) ?_ | refine QL_next ?_ | refine QL_exit ?_ | refine QL_ret ?_ | refine QL_out (by decide) ?_ | (show Fin _ _ .ret _; exact Fin_ret (by first | (simp [c3]; done) | (simp [c3]; with_reducible rfl))) | (show Fin _ _ .normal _; exact Fin_end (by first | (simp [c3]; done) | (simp [c3]; with_reducible rfl))))

end Go.Proofs.Yteljepckjaoebaa.Oct
