/- The reading of the law's call is true. -/
import Derived.Test.YtlopfjipndhpfabOM
import Derived.Test.YtlopfjipndhpfabOctLaw
set_option linter.unusedVariables false
set_option linter.unusedSimpArgs false
set_option maxRecDepth 100000
namespace Go.Proofs.Ytlopfjipndhpfab.Pure
open Go Go.RowKit Go.Proofs.Ytlopfjipndhpfab.Lift Go.Proofs.Ytlopfjipndhpfab Go.Proofs.Ytlopfjipndhpfab.TM Go.Proofs.Ytlopfjipndhpfab.Oct

set_option maxHeartbeats 4000000 in
theorem OctetBack : ∀ (y0 : Int) (y1 : ByteArray) (y2 : (List Int)), (okInt .i64) y0 → okStr y1 → (okSl (okInt .u8)) y2 → F TM.T 5 [.int .i64 y0, .str y1, .ro 1 (y2.map (eInt .u8)) false] [] = some (.bool true, []) := by
  intro n s more _ _ hm
  have hmore := ok_u8 hm
  show F TM.T 5 [.int .i64 n, .str s, .ro 1 (enc (eInt .u8) more) false] [] = _
  by_cases g1 : n < 0
  · exact F_call T5 (ex := .ret) (by simp [TM.c5, TM.c5_b, callArgs_none, F8, g1]; rfl) (by simp) (by simp [TM.c5])
  by_cases g2 : (72057594037927935 : Int) < n
  · exact F_call T5 (ex := .ret) (by simp [TM.c5, TM.c5_b, callArgs_none, F8, g1, g2]; rfl) (by simp) (by simp [TM.c5])
  by_cases g3 : (1000 : Int) < s.size
  · exact F_call T5 (ex := .ret) (by simp [TM.c5, TM.c5_b, callArgs_none, F8, g1, g2, g3]; rfl) (by simp) (by simp [TM.c5])
  by_cases g4 : (1000 : Int) < more.length
  · exact F_call T5 (ex := .ret) (by simp [TM.c5, TM.c5_b, callArgs_none, F8, g1, g2, g3, g4]; rfl) (by simp) (by simp [TM.c5])
  obtain ⟨m, rfl⟩ : ∃ m : Nat, n = m := ⟨n.toNat, by omega⟩
  have hm1 : m < 72057594037927936 := by omega
  have hc : clampN m = m := by simp only [clampN]; omega
  obtain ⟨v9, f9⟩ := F9 0 true [] m (.inr rfl) (by simp)
  rw [hc] at f9
  have hnl := numB_len m hm1
  have hsl := numB_len s.size (by omega)
  obtain ⟨v10, f10⟩ := F10 (numB m) s (by omega) (by omega)
  have hB : ∃ B, B = numB m ++ numB s.size ++ sb s := ⟨_, rfl⟩
  obtain ⟨B, hB⟩ := hB
  have hBl : (numB m).length + (numB s.size).length + s.size = B.length := by rw [hB]; simp; omega
  rw [← hB, hBl] at f10
  have hN1 : 1 ≤ (numB m).length := by unfold numB; split <;> simp
  have hX : InR (B ++ more) 0 (B ++ more).length := by
    refine ⟨fun a ha => ?_, by omega, by rw [List.length_append]; omega⟩
    rcases List.mem_append.1 ha with h | h
    · rw [hB] at h
      rcases List.mem_append.1 h with h | h
      · rcases List.mem_append.1 h with h | h
        · exact numB_range m hm1 a h
        · exact numB_range _ (by omega) a h
      · obtain ⟨b, _, rfl⟩ := List.mem_map.1 h
        have := b.toNat_lt
        omega
    · exact hmore a h
  have f13 := F13 (B ++ more) false (by have := hX.hn; omega)
  have f14 := F14 hX 0 m 0
  have r1 : rdN ((B ++ more).drop 0) 0 m = ((m : Int), (numB m).length, 0) := by
    have := nxt_num m (numB s.size ++ (sb s ++ more)) m hm1 (by omega)
    rw [← List.append_assoc, ← List.append_assoc, ← hB] at this
    simp [rdN, this]
  rw [r1] at f14
  have hX2 : InR (B ++ more) (numB m).length ((B ++ more).length - (numB m).length) := ⟨hX.hx, by rw [List.length_append]; omega, hX.hn⟩
  have f16 := F16 hX2 0 s.size 0
  have r2 : rdT ((B ++ more).drop (numB m).length) 0 s.size = (sb s, (numB s.size).length + s.size, 0) := by
    have h1 : (B ++ more).drop (numB m).length = numB s.size ++ (sb s ++ more) := by rw [hB, List.append_assoc, List.append_assoc, List.drop_left]
    have := nxt_num s.size (sb s ++ more) s.size (by omega) (by omega)
    rw [h1]
    simp only [rdT, this, ne_eq, not_true_eq_false, if_false]
    rw [if_neg (by simp; omega), List.drop_left, Int.toNat_natCast, List.take_append_of_le_length (by simp), List.take_of_length_le (by simp)]
  rw [r2] at f16
  simp only [bs_sb, Nat.zero_add] at f14 f16
  have hn2 : (B ++ more).length - (numB m).length - ((numB s.size).length + s.size) = more.length := by rw [List.length_append]; omega
  have hn3 : (numB m).length + ((numB s.size).length + s.size) = B.length := by omega
  rw [hn2, hn3] at f16
  have f20 := F20 (B ++ more) B.length more.length 0 0
  have f21 := F21 (B ++ more) B.length more.length 0 0
  have hY : InR more 0 more.length := ⟨hmore, by omega, by omega⟩
  have p13 := F13 more false (by omega)
  have p14 := F14 hY 0 72057594037927935 0
  have hok := nxt_ok more 72057594037927935 hmore
  have hbk := nxt_back more 72057594037927935 hmore
  have r3 : rdN (more.drop 0) 0 72057594037927935 = if (nxt more 72057594037927935).2.2 ≠ 0 then (0, 0, (nxt more 72057594037927935).2.2) else ((nxt more 72057594037927935).1, (nxt more 72057594037927935).2.1, 0) := by simp [rdN]
  rw [r3] at p14
  simp only [HsR, List.drop_zero, Nat.zero_add, List.length_append] at f13 f14 f16 f20 f21 p13 p14
  simp only [List.nil_append, List.length_nil, Nat.zero_add, enc_nil] at f9
  have hne : B ≠ [] := by intro h; rw [h, List.length_nil] at hBl; omega
  have hBp : 0 < B.length := List.length_pos_iff.2 hne
  generalize B.length + more.length - (numB m).length = n1 at f14 f16
  generalize nxt more 72057594037927935 = q at p14 hok hbk
  obtain ⟨y, w, e⟩ := q
  simp only [] at p14 hok hbk
  have b1 : B.length ≤ 140737488355328 := by omega
  have b2 : B.length + more.length ≤ 140737488355328 := by omega
  have p20 := F20 more w (more.length - w) 0 e
  have p21 := F21 more w (more.length - w) 0 e
  simp only [HsR] at p20 p21
  by_cases he : e = 0
  · subst he
    obtain ⟨k1, k2, k3, k4⟩ := hok rfl
    obtain ⟨p, rfl⟩ : ∃ p : Nat, y = p := ⟨y.toNat, by omega⟩
    have hc2 : clampN (p : Int) = p := by simp only [clampN]; omega
    obtain ⟨v2, h9⟩ := F9 0 true [] p (.inr rfl) (by simp)
    have hbk' := hbk rfl
    rw [Int.toNat_natCast] at hbk'
    rw [hc2, hbk'] at h9
    have hw : (more.take w).length = w := by rw [List.length_take]; omega
    simp only [List.nil_append, List.length_nil, Nat.zero_add, enc_nil] at h9
    rw [hw] at h9
    have e1 : IntKind.i64.wrap ((more.length : Int) - ((more.length - w : Nat) : Int)) = w := by rw [wrap_i64 _ (by omega) (by omega)]; omega
    have e2 : ¬ (more.length : Int) < w := by omega
    by_cases hmn : more = []
    · subst hmn; simp at k2; omega
    · have b3 : ¬ B.length + more.length ≤ B.length := by have := List.length_pos_iff.2 hmn; omega
      refine F_call (st := ?sta) T5 (ex := .ret) ?maina (.inr rfl) ?fina
      case maina =>
        simp only [TM.c5, TM.c5_b, Lift.start]
        simp only [List.length_cons, List.length_nil, List.cons_append, List.nil_append, List.replicate, zipFrom]
        go []
        go [g1, g2, g3, g4]
        go [callArgs, f9, f10]
        go [callArgs, hne, hBp, b1, b2, b3, hmn, f13]
        go [callArgs, f14, f16]
        go [callArgs, f20, f21]
        go [callArgs, p13]
        go [callArgs, p14]
        go [callArgs, p20, e1]
        go [callArgs, p21, e1, e2]
        go [callArgs, h9, F8, k2, Nat.min_eq_left k2, List.take_take]
        stop []
      case fina => simp [TM.c5]
  · have e1' : IntKind.i64.wrap 0 = 0 := rfl
    simp only [ne_eq, he, not_false_eq_true, if_true, Nat.sub_zero] at p14
    have p20 := F20 more 0 more.length 0 e
    have p21 := F21 more 0 more.length 0 e
    simp only [HsR] at p20 p21
    by_cases hmn : more = []
    · subst hmn
      simp only [List.append_nil, List.length_nil, Nat.add_zero, enc_nil] at f13 f14 f16 f20 f21 p13 p14 p20 p21 b2
      refine F_call (st := ?stb) T5 (ex := .ret) ?mainb (.inr rfl) ?finb
      case mainb =>
        simp only [TM.c5, TM.c5_b, Lift.start]
        simp only [List.length_cons, List.length_nil, List.cons_append, List.nil_append, List.replicate, zipFrom]
        go []
        go [g1, g2, g3, g4]
        go [callArgs, f9, f10]
        go [callArgs, hne, hBp, b1, b2, f13]
        go [callArgs, f14, f16]
        go [callArgs, f20, f21]
        go [callArgs, p13]
        go [callArgs, p14]
        go [callArgs, p20, e1']
        refine A_stop (by simp [callArgs, p21, he, F8]; rfl) (by simp)
      case finb => simp [TM.c5]
    · have b3 : ¬ B.length + more.length ≤ B.length := by have := List.length_pos_iff.2 hmn; omega
      refine F_call (st := ?stc) T5 (ex := .ret) ?mainc (.inr rfl) ?finc
      case mainc =>
        simp only [TM.c5, TM.c5_b, Lift.start]
        simp only [List.length_cons, List.length_nil, List.cons_append, List.nil_append, List.replicate, zipFrom]
        go []
        go [g1, g2, g3, g4]
        go [callArgs, f9, f10]
        go [callArgs, hne, hBp, b1, b2, b3, hmn, f13]
        go [callArgs, f14, f16]
        go [callArgs, f20, f21]
        go [callArgs, p13]
        go [callArgs, p14]
        go [callArgs, p20, e1']
        refine A_stop (by simp [callArgs, p21, he, F8]; rfl) (by simp)
      case finc => simp [TM.c5]

end Go.Proofs.Ytlopfjipndhpfab.Pure
