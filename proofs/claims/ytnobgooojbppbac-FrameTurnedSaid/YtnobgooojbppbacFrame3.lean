/- Frames: of any beginning of frames those are told that are whole. -/
import Derived.Test.YtnobgooojbppbacFrame2
set_option linter.all false
set_option linter.unusedSimpArgs false
set_option maxRecDepth 100000
set_option maxHeartbeats 8000000
namespace Go.Proofs.Ytnobgooojbppbac.Oct
open Go Go.RowKit Go.Proofs.Ytnobgooojbppbac.Lift Go.Proofs.Ytnobgooojbppbac.TOC Go.Proofs.Ytnobgooojbppbac.Base Go.Proofs.Ytnobgooojbppbac Go.Proofs.Ytnobgooojbppbac.CrcC

theorem allP_frames' : ∀ (ps : List (List Int)) (rest : List Int) (f : Nat), (∀ p ∈ ps, p.length ≤ 4096) → ps.length ≤ f → (rest = [] ∨ (cutP rest).2.2 ≠ 0) → allP f ((ps.map frameB).flatten ++ rest) = (ps.map bs, (ps.map frameB).flatten.length)
  | ps, rest, f, hp, hf, hr => by
    rcases Nat.lt_or_ge ps.length f with h | h
    · exact allP_frames ps rest f hp h hr
    · obtain rfl : f = ps.length := by omega
      induction ps with
      | nil => simp [allP]
      | cons p ps ih =>
        have hc := cutP_frame p ((ps.map frameB).flatten ++ rest) (hp p (by simp))
        have hne : frameB p ++ ((ps.map frameB).flatten ++ rest) ≠ [] := by
          intro e
          have := congrArg List.length e
          rw [List.length_append, frameB_len] at this
          simp at this
        simp only [List.map_cons, List.flatten_cons, List.append_assoc, List.length_cons, allP]
        rw [if_neg hne, hc]
        simp only [ne_eq, not_true_eq_false, if_false, List.drop_left]
        rw [ih (fun q hq => hp q (by simp [hq])) (by omega) (by omega)]
        simp

/-- Frames, one behind the other. -/
def J (ps : List ByteArray) : List Int := (ps.map fun s => frameB (sb s)).flatten
theorem J_snoc (ps : List ByteArray) (i : Nat) (h : i < ps.length) : J (ps.take (i + 1)) = J (ps.take i) ++ frameB (sb ps[i]) := by
  unfold J
  rw [List.take_succ_eq_append_getElem h, List.map_append, List.flatten_append]
  simp only [List.map_cons, List.map_nil, List.flatten_cons, List.flatten_nil, List.append_nil]
/-- Where they end. -/
def En (ps : List ByteArray) (i : Nat) : List Int := (List.range i).map fun j => ((J (ps.take (j + 1))).length : Int)
theorem En_succ (ps : List ByteArray) (i : Nat) : En ps (i + 1) = En ps i ++ [((J (ps.take (i + 1))).length : Int)] := by
  unfold En
  rw [List.range_succ]
  simp
@[simp] theorem En_len (ps : List ByteArray) (i : Nat) : (En ps i).length = i := by simp [En]
theorem En_get (ps : List ByteArray) (i j : Nat) (h : j < (En ps i).length) : (En ps i)[j] = ((J (ps.take (j + 1))).length : Int) := by simp [En]

/-- Few and short. -/
structure Few (ps : List ByteArray) : Prop where
  n : ps.length ≤ 20
  each : ∀ s ∈ ps, s.size ≤ 200

theorem frame_size (s : ByteArray) (h : s.size ≤ 200) : (frameB (sb s)).length = s.size + 5 := by
  rw [frameB_len]
  unfold textB numB
  rw [sb_length, if_pos (by omega)]
  simp
theorem J_len (ps : List ByteArray) (h : ∀ s ∈ ps, s.size ≤ 200) : (J ps).length ≤ 205 * ps.length ∧ 5 * ps.length ≤ (J ps).length := by
  induction ps with
  | nil => simp [J]
  | cons s ps ih =>
    have h1 := frame_size s (h s (by simp))
    have h2 := h s (by simp)
    obtain ⟨i1, i2⟩ := ih fun q hq => h q (by simp [hq])
    have e : J (s :: ps) = frameB (sb s) ++ J ps := rfl
    rw [e, List.length_append, List.length_cons]
    omega
theorem J_range (ps : List ByteArray) (h : ∀ s ∈ ps, s.size ≤ 200) : ∀ a ∈ J ps, 0 ≤ a ∧ a ≤ 255 := by
  intro a ha
  unfold J at ha
  obtain ⟨l, hl, hal⟩ := List.mem_flatten.1 ha
  obtain ⟨s, hs, rfl⟩ := List.mem_map.1 hl
  have := h s hs
  exact frameB_range (sb s) (by rw [sb_length]; omega) (sb_range s) a hal
theorem Few.take {ps : List ByteArray} (h : Few ps) (i : Nat) : Few (ps.take i) := ⟨by have := h.n; simp; omega, fun s hs => h.each s (List.mem_of_mem_take hs)⟩
theorem J_pre (ps : List ByteArray) (i : Nat) : J ps = J (ps.take i) ++ J (ps.drop i) := by
  unfold J
  rw [← List.flatten_append, ← List.map_append, List.take_append_drop]

theorem allP_J (ps : List ByteArray) (hf : Few ps) (rest : List Int) (f : Nat) (h : ps.length ≤ f) (hr : rest = [] ∨ (cutP rest).2.2 ≠ 0) : allP f (J ps ++ rest) = (ps, (J ps).length) := by
  have := allP_frames' (ps.map sb) rest f (by
    intro p hp
    obtain ⟨s, hs, rfl⟩ := List.mem_map.1 hp
    have := hf.each s hs
    rw [sb_length]; omega) (by simpa using h) hr
  rw [List.map_map, List.map_map] at this
  have e1 : (List.map (bs ∘ sb) ps) = ps := by
    conv => rhs; rw [← List.map_id ps]
    exact List.map_congr_left fun s _ => bs_sb s
  rw [e1] at this
  exact this

/-- A beginning. -/
theorem torn (ps : List ByteArray) (hf : Few ps) (c w : Nat) (hw : w ≤ ps.length) (hc : (J (ps.take w)).length ≤ c) (hc2 : c ≤ (J ps).length) (hlt : w < ps.length → c < (J (ps.take (w + 1))).length) :
    allP ((J ps).take c).length ((J ps).take c) = (ps.take w, (J (ps.take w)).length) := by
  have hl := J_len (ps.take w) (hf.take w).each
  have htl : (ps.take w).length = w := by simp; omega
  have hlc : ((J ps).take c).length = c := by simp; omega
  rw [hlc]
  rcases Nat.lt_or_ge w ps.length with h | h
  · have h1 := hlt h
    rw [J_snoc ps w h, List.length_append] at h1
    have e : (J ps).take c = J (ps.take w) ++ (frameB (sb ps[w])).take (c - (J (ps.take w)).length) := by
      rw [J_pre ps (w + 1), J_snoc ps w h, List.append_assoc, List.take_append]
      rw [List.take_of_length_le hc]
      congr 1
      rw [List.take_append_of_le_length (by omega)]
    rw [e]
    have hs := hf.each ps[w] (List.getElem_mem h)
    refine allP_J (ps.take w) (hf.take w) _ c (by omega) ?_
    exact cutP_torn (sb ps[w]) _ (by rw [sb_length]; omega) (by omega) (sb_range _)
  · obtain rfl : w = ps.length := by omega
    rw [List.take_length] at *
    obtain rfl : c = (J ps).length := by omega
    rw [List.take_length]
    have := allP_J ps hf [] (J ps).length (by omega) (.inl rfl)
    rw [List.append_nil] at this
    exact this

theorem long_loop (ps : List ByteArray) (hl : ps.length ≤ 9223372036854775807) (most each : Int) : ∀ (n i : Nat) (st : ASt), i + n = ps.length → canon [0, 1, 2, 7] st = ⟨[.ro 1 (enc eStr ps) false, .int .i64 most, .int .i64 each, .top, .top, .top, .top, .int .i64 i, .top, .top, .top, .top, .top, .top, .top, .top, .top, .top, .top, .top, .top, .top, .top, .top, .top], [], 0, 0⟩ →
    W T c47_k0 st (Lift.Fin c47 (.bool (((ps.drop i).any fun s => decide (each < (s.size : Int))) || decide (most < (ps.length : Int))), [])) := by
  intro n
  induction n with
  | zero =>
    intro i st hi hc
    obtain rfl : i = ps.length := by omega
    have h1 : ¬ (ps.length : Int) < ps.length := by omega
    rw [List.drop_length]
    simp only [List.any_nil, Bool.false_or]
    unfold c47_k0
    refine W_round hc ?_
    unfold c47_l0
    repeat (first | refine W_assoc ?_ | (show W _ (.seq (.region _ _) _) _ _; refine W_reg (by simp; with_reducible rfl) ?_) | (show R _ _ _ (_ :: _) _ _ _ _; refine R_op (by simp (maxSteps := 2000000) [h1]; with_reducible rfl) ?_) | (show R _ _ _ [] _ _ _ _; refine R_nil (by simp; with_reducible rfl) ?_) | (show W _ (.seq (.cond _ _ _) _) _ _; first | refine W_ct (by first | (simp [h1]; done) | fail) ?_ | refine W_cf (by first | (simp [h1]; done) | fail) ?_) | refine W_skip ?_ | refine W_bl (c := .seq _ _) ?_ | refine W_bl (c := .region _ _) ?_ | refine W_bl (c := .cond _ _ _) ?_ | refine W_bl (c := .block _ _) ?_ | refine W_rt ?_ | refine W_ex ?_ | refine W_end ?_ | refine W_tail (a := .region _ _) ?_ | refine W_tail (a := .cond _ _ _) ?_ | refine W_tail (a := .ret) ?_ | refine W_tail (a := .exit _) ?_ | refine W_tail (a := .block _ _) ?_ | refine QB_normal ?_ | refine QB_exit ?_ | refine QB_ret ?_ | refine QB_out (by decide) ?_ | refine QL_next ?_ | refine QL_exit ?_ | refine QL_ret ?_ | refine QL_out (by decide) ?_ | (show Fin _ _ .ret _; exact Fin_ret (by first | (simp [c47]; done) | (simp [c47]; with_reducible rfl))) | (show Fin _ _ .normal _; exact Fin_end (by first | (simp [c47]; done) | (simp [c47]; with_reducible rfl))))
  | succ n ih =>
    intro i st hi hc
    have hlt : i < ps.length := by omega
    have hlt' : (i : Int) < ps.length := by omega
    have hw : IntKind.i64.wrap ((i : Int) + 1) = (i : Int) + 1 := wrap_i64 _ (by omega) (by omega)
    rw [List.drop_eq_getElem_cons hlt, List.any_cons]
    unfold c47_k0
    refine W_round hc ?_
    unfold c47_l0
    by_cases h : each < ((ps[i]).size : Int)
    · simp only [h, decide_true, Bool.true_or]
      repeat (first | refine W_assoc ?_ | (show W _ (.seq (.region _ _) _) _ _; refine W_reg (by simp; with_reducible rfl) ?_) | (show R _ _ _ (_ :: _) _ _ _ _; refine R_op (by simp (maxSteps := 2000000) [hlt, hlt', hw, h]; with_reducible rfl) ?_) | (show R _ _ _ [] _ _ _ _; refine R_nil (by simp; with_reducible rfl) ?_) | (show W _ (.seq (.cond _ _ _) _) _ _; first | refine W_ct (by first | (simp [hlt, hlt', hw, h]; done) | fail) ?_ | refine W_cf (by first | (simp [hlt, hlt', hw, h]; done) | fail) ?_) | refine W_skip ?_ | refine W_bl (c := .seq _ _) ?_ | refine W_bl (c := .region _ _) ?_ | refine W_bl (c := .cond _ _ _) ?_ | refine W_bl (c := .block _ _) ?_ | refine W_rt ?_ | refine W_ex ?_ | refine W_end ?_ | refine W_tail (a := .region _ _) ?_ | refine W_tail (a := .cond _ _ _) ?_ | refine W_tail (a := .ret) ?_ | refine W_tail (a := .exit _) ?_ | refine W_tail (a := .block _ _) ?_ | refine QB_normal ?_ | refine QB_exit ?_ | refine QB_ret ?_ | refine QB_out (by decide) ?_ | refine QL_next ?_ | refine QL_exit ?_ | refine QL_ret ?_ | refine QL_out (by decide) ?_ | (show Fin _ _ .ret _; exact Fin_ret (by first | (simp [c47]; done) | (simp [c47]; with_reducible rfl))) | (show Fin _ _ .normal _; exact Fin_end (by first | (simp [c47]; done) | (simp [c47]; with_reducible rfl))))
    · simp only [h, decide_false, Bool.false_or]
      repeat (first | refine W_assoc ?_ | (show W _ (.seq (.region _ _) _) _ _; refine W_reg (by simp; with_reducible rfl) ?_) | (show R _ _ _ (_ :: _) _ _ _ _; refine R_op (by simp (maxSteps := 2000000) [hlt, hlt', hw, h]; with_reducible rfl) ?_) | (show R _ _ _ [] _ _ _ _; refine R_nil (by simp; with_reducible rfl) ?_) | (show W _ (.seq (.cond _ _ _) _) _ _; first | refine W_ct (by first | (simp [hlt, hlt', hw, h]; done) | fail) ?_ | refine W_cf (by first | (simp [hlt, hlt', hw, h]; done) | fail) ?_) | refine W_skip ?_ | refine W_bl (c := .seq _ _) ?_ | refine W_bl (c := .region _ _) ?_ | refine W_bl (c := .cond _ _ _) ?_ | refine W_bl (c := .block _ _) ?_ | refine W_rt ?_ | refine W_ex ?_ | refine W_end ?_ | refine W_tail (a := .region _ _) ?_ | refine W_tail (a := .cond _ _ _) ?_ | refine W_tail (a := .ret) ?_ | refine W_tail (a := .exit _) ?_ | refine W_tail (a := .block _ _) ?_ | refine QB_normal ?_ | refine QB_exit ?_ | refine QB_ret ?_ | refine QB_out (by decide) ?_ | refine QL_next ?_ | refine QL_exit ?_ | refine QL_ret ?_ | refine QL_out (by decide) ?_ | (show Fin _ _ .ret _; exact Fin_ret (by first | (simp; done) | (simp; with_reducible rfl))) | (show Fin _ _ .normal _; exact Fin_end (by first | (simp; done) | (simp; with_reducible rfl))))
      refine ih (i + 1) _ ?_ ?_
      · omega
      · simp; try rfl

theorem V_Long (ps : List ByteArray) (hl : ps.length ≤ 9223372036854775807) (most each : Int) : FV (F T) 47 [.ro 1 (enc eStr ps) false, .int .i64 most, .int .i64 each] = some (.bool ((ps.any fun s => decide (each < (s.size : Int))) || decide (most < (ps.length : Int)))) := by
  have hF : F T 47 [.ro 1 (enc eStr ps) false, .int .i64 most, .int .i64 each] [] = some (.bool ((ps.any fun s => decide (each < (s.size : Int))) || decide (most < (ps.length : Int))), []) := by
    have hL := long_loop ps hl most each ps.length 0
    simp only [List.drop_zero] at hL
    refine F_W T47 ?_
    simp only [c47, c47_b, Lift.start]
    repeat (first | refine W_assoc ?_ | (show W _ (.seq (.region _ _) _) _ _; refine W_reg (by simp; with_reducible rfl) ?_) | (show R _ _ _ (_ :: _) _ _ _ _; refine R_op (by simp (maxSteps := 2000000); with_reducible rfl) ?_) | (show R _ _ _ [] _ _ _ _; refine R_nil (by simp; with_reducible rfl) ?_) | (show W _ (.seq (.cond _ _ _) _) _ _; first | refine W_ct (by first | (simp; done) | fail) ?_ | refine W_cf (by first | (simp; done) | fail) ?_) | refine W_skip ?_ | refine W_bl (c := .seq _ _) ?_ | refine W_bl (c := .region _ _) ?_ | refine W_bl (c := .cond _ _ _) ?_ | refine W_bl (c := .block _ _) ?_ | refine W_rt ?_ | refine W_ex ?_ | refine W_end ?_ | refine W_tail (a := .region _ _) ?_ | refine W_tail (a := .cond _ _ _) ?_ | refine W_tail (a := .ret) ?_ | refine W_tail (a := .exit _) ?_ | refine W_tail (a := .block _ _) ?_ | refine QB_normal ?_ | refine QB_exit ?_ | refine QB_ret ?_ | refine QB_out (by decide) ?_ | refine QL_next ?_ | refine QL_exit ?_ | refine QL_ret ?_ | refine QL_out (by decide) ?_ | (show Fin _ _ .ret _; exact Fin_ret (by first | (simp; done) | (simp; with_reducible rfl))) | (show Fin _ _ .normal _; exact Fin_end (by first | (simp; done) | (simp; with_reducible rfl))))
    refine hL _ ?_ ?_
    · omega
    · simp
  simpa using FV_of hF

theorem few_of {ps : List ByteArray} (h : ((ps.any fun s => decide ((200 : Int) < (s.size : Int))) || decide ((20 : Int) < (ps.length : Int))) = false) : Few ps := by
  simp only [Bool.or_eq_false_iff, List.any_eq_false, decide_eq_false_iff_not, decide_eq_true_eq] at h
  refine ⟨by omega, fun s hs => ?_⟩
  have := h.1 s hs
  omega

theorem putB_few (s : ByteArray) (h : s.size ≤ 200) : putB s = frameB (sb s) := by unfold putB; rw [if_neg (by omega)]

theorem whole_loop (ps : List ByteArray) (hf : Few ps) (hn : 0 < ps.length) (c : Nat) (hc2 : c ≤ (J ps).length) : ∀ (n w : Nat) (st : ASt), w + n = ps.length → (J (ps.take w)).length ≤ c → canon [0, 1, 5, 6, 8] st = ⟨[.ro 1 (enc eStr ps) false, .int .i64 c, .top, .top, .top, .ro 1 (enc (eInt .u8) (J ps)) false, .own 0 0 ps.length, .top, .int .i64 w, .top, .top, .top, .top, .top, .top, .top, .top, .top, .top, .top, .top, .top, .top, .top, .top, .top, .top, .top, .top, .top, .top, .top, .top, .top, .top, .top, .top, .top, .top, .top, .top, .top, .top, .top, .top, .top, .top, .top, .top, .top, .top, .top, .top, .top, .top, .top, .top, .top, .top, .top, .top, .top, .top, .top, .top, .top, .top, .top, .top, .top, .top, .top, .top, .top, .top, .top, .top, .top, .top, .top, .top, .top, .top], [(0, ⟨3, 1, false, enc (eInt .i64) (En ps ps.length), 0⟩)], 1, 0⟩ →
    W T c11_k1 st (Lift.Fin c11 (.bool true, [])) := by
  have hjl := J_len ps hf.each
  have h20 := hf.n
  have hend : ∀ w : Nat, w ≤ ps.length → (J (ps.take w)).length ≤ c → (w < ps.length → c < (J (ps.take (w + 1))).length) →
      (FV (F T) 44 [.ro 1 (enc (eInt .u8) ((J ps).take c)) false] = some (.tup [.ro 1 (enc eStr (ps.take w)) false, .int .i64 (J (ps.take w)).length])) ∧ FV (F T) 46 [.ro 1 (enc eStr (ps.take w)) false, .ro 1 (enc eStr (ps.take w)) false] = some (.bool true) := by
    intro w h1 h2 h3
    have f1 := FV_of (F_All ((J ps).take c) (fun a ha => J_range ps hf.each a (List.mem_of_mem_take ha)) (by simp; omega))
    rw [torn ps hf c w h1 h2 hc2 h3] at f1
    simp at f1
    rw [show (ps.take w).take (min w ps.length) = ps.take w from List.take_of_length_le (by simp)] at f1
    exact ⟨f1, V_RSame _ (by simp; omega)⟩
  obtain ⟨E, hE0⟩ : ∃ E, E = En ps ps.length := ⟨_, rfl⟩
  have hE : E.length = ps.length := by rw [hE0]; simp
  have hget : ∀ (j : Nat) (h : j < E.length), E[j] = ((J (ps.take (j + 1))).length : Int) := by subst hE0; exact fun j h => En_get ps ps.length j h
  rw [← hE0]
  have hcl : (c : Int) ≤ (J ps).length := by omega
  intro n
  induction n with
  | zero =>
    intro w st hw h2 hc
    obtain ⟨f1, f2⟩ := hend w (by omega) h2 (by omega)
    obtain ⟨M, rfl⟩ : ∃ M, w = M + 1 := ⟨w - 1, by omega⟩
    have hg1 := hget M (by omega)
    have hw1 : IntKind.i64.wrap (M : Int) = (M : Int) := wrap_id _ (by omega) (by omega)
    have hME : M < E.length := by omega
    have hM : M < ps.length := by omega
    have hwl : (M : Int) + 1 ≤ ps.length := by omega
    have hwle : M + 1 ≤ ps.length := by omega
    have h1 : ¬ (M : Int) + 1 < ps.length := by omega
    have h1' : ¬ M + 1 < ps.length := by omega
    have hp1 : (0 : Int) < (M : Int) + 1 := by omega
    have hp0 : (0 : Int) ≤ (M : Int) + 1 := by omega
    have ht : ((M : Int) + 1).toNat = M + 1 := by omega
    generalize (J (ps.take (M + 1))).length = e1 at *
    generalize J ps = B at *
    unfold c11_k1
    refine W_round hc ?_
    unfold c11_l1
    repeat (first | refine W_assoc ?_ | (show W _ (.seq (.region _ _) _) _ _; refine W_reg (by simp; with_reducible rfl) ?_) | (show R _ _ _ (_ :: _) _ _ _ _; refine R_op (by simp (maxSteps := 2000000) [hcl, hc2, f1, f2, hw1, hg1, hME, hE, hM, hwl, hwle, h1, h1', hp1, hp0, ht, V_works03]; with_reducible rfl) ?_) | (show R _ _ _ [] _ _ _ _; refine R_nil (by simp; with_reducible rfl) ?_) | (show W _ (.seq (.cond _ _ _) _) _ _; first | refine W_ct (by first | (simp [hcl, hc2, f1, f2, hw1, hg1, hME, hE, hM, hwl, hwle, h1, h1', hp1, hp0, ht, V_works03]; done) | fail) ?_ | refine W_cf (by first | (simp [hcl, hc2, f1, f2, hw1, hg1, hME, hE, hM, hwl, hwle, h1, h1', hp1, hp0, ht, V_works03]; done) | fail) ?_) | refine W_skip ?_ | refine W_bl (c := .seq _ _) ?_ | refine W_bl (c := .region _ _) ?_ | refine W_bl (c := .cond _ _ _) ?_ | refine W_bl (c := .block _ _) ?_ | refine W_rt ?_ | refine W_ex ?_ | refine W_end ?_ | refine W_tail (a := .region _ _) ?_ | refine W_tail (a := .cond _ _ _) ?_ | refine W_tail (a := .ret) ?_ | refine W_tail (a := .exit _) ?_ | refine W_tail (a := .block _ _) ?_ | refine QB_normal ?_ | refine QB_exit ?_ | refine QB_ret ?_ | refine QB_out (by decide) ?_ | refine QL_next ?_ | refine QL_exit ?_ | refine QL_ret ?_ | refine QL_out (by decide) ?_ | (show Fin _ _ .ret _; exact Fin_ret (by first | (simp [c11]; done) | (simp [c11]; with_reducible rfl))) | (show Fin _ _ .normal _; exact Fin_end (by first | (simp [c11]; done) | (simp [c11]; with_reducible rfl))))
  | succ n ih =>
    intro w st hw h2 hc
    have hlt : w < ps.length := by omega
    have hlt' : (w : Int) < ps.length := by omega
    have hww := wrapS w _ hlt (by omega)
    have hg := hget w (by omega)
    by_cases hin : (J (ps.take (w + 1))).length ≤ c
    · have hin' : ((J (ps.take (w + 1))).length : Int) ≤ c := by omega
      have ih' := ih (w + 1)
      generalize (J (ps.take (w + 1))).length = e at *
      have hwE : w < E.length := by omega
      unfold c11_k1
      refine W_round hc ?_
      unfold c11_l1
      repeat (first | refine W_assoc ?_ | (show W _ (.seq (.region _ _) _) _ _; refine W_reg (by simp; with_reducible rfl) ?_) | (show R _ _ _ (_ :: _) _ _ _ _; refine R_op (by simp (maxSteps := 2000000) [hlt, hlt', hww, hwE, hg, hin, hin']; with_reducible rfl) ?_) | (show R _ _ _ [] _ _ _ _; refine R_nil (by simp; with_reducible rfl) ?_) | (show W _ (.seq (.cond _ _ _) _) _ _; first | refine W_ct (by first | (simp [hlt, hlt', hww, hwE, hg, hin, hin']; done) | fail) ?_ | refine W_cf (by first | (simp [hlt, hlt', hww, hwE, hg, hin, hin']; done) | fail) ?_) | refine W_skip ?_ | refine W_bl (c := .seq _ _) ?_ | refine W_bl (c := .region _ _) ?_ | refine W_bl (c := .cond _ _ _) ?_ | refine W_bl (c := .block _ _) ?_ | refine W_rt ?_ | refine W_ex ?_ | refine W_end ?_ | refine W_tail (a := .region _ _) ?_ | refine W_tail (a := .cond _ _ _) ?_ | refine W_tail (a := .ret) ?_ | refine W_tail (a := .exit _) ?_ | refine W_tail (a := .block _ _) ?_ | refine QB_normal ?_ | refine QB_exit ?_ | refine QB_ret ?_ | refine QB_out (by decide) ?_ | refine QL_next ?_ | refine QL_exit ?_ | refine QL_ret ?_ | refine QL_out (by decide) ?_ | (show Fin _ _ .ret _; exact Fin_ret (by first | (simp; done) | (simp; with_reducible rfl))) | (show Fin _ _ .normal _; exact Fin_end (by first | (simp; done) | (simp; with_reducible rfl))))
      refine ih' _ ?_ hin ?_
      · omega
      · simp; try rfl
    · have hin' : ¬ ((J (ps.take (w + 1))).length : Int) ≤ c := by omega
      obtain ⟨f1, f2⟩ := hend w (by omega) h2 (fun _ => by omega)
      have hwl : (w : Int) ≤ ps.length := by omega
      by_cases hw0 : w = 0
      · subst hw0
        have hj0 : (J (ps.take 0)).length = 0 := rfl
        rw [hj0] at f1
        rw [List.take_zero] at *
        generalize (J (ps.take (0 + 1))).length = e at *
        generalize J ps = B at *
        have hwE : 0 < E.length := by omega
        simp only [enc_nil] at f1 f2
        unfold c11_k1
        refine W_round hc ?_
        unfold c11_l1
        repeat (first | refine W_assoc ?_ | (show W _ (.seq (.region _ _) _) _ _; refine W_reg (by simp; with_reducible rfl) ?_) | (show R _ _ _ (_ :: _) _ _ _ _; refine R_op (by simp (maxSteps := 2000000) [hlt, hlt', hwE, hg, hin, hin', hcl, hc2, f1, f2, V_works03]; with_reducible rfl) ?_) | (show R _ _ _ [] _ _ _ _; refine R_nil (by simp; with_reducible rfl) ?_) | (show W _ (.seq (.cond _ _ _) _) _ _; first | refine W_ct (by first | (simp [hlt, hlt', hwE, hg, hin, hin', hcl, hc2, f1, f2, V_works03]; done) | fail) ?_ | refine W_cf (by first | (simp [hlt, hlt', hwE, hg, hin, hin', hcl, hc2, f1, f2, V_works03]; done) | fail) ?_) | refine W_skip ?_ | refine W_bl (c := .seq _ _) ?_ | refine W_bl (c := .region _ _) ?_ | refine W_bl (c := .cond _ _ _) ?_ | refine W_bl (c := .block _ _) ?_ | refine W_rt ?_ | refine W_ex ?_ | refine W_end ?_ | refine W_tail (a := .region _ _) ?_ | refine W_tail (a := .cond _ _ _) ?_ | refine W_tail (a := .ret) ?_ | refine W_tail (a := .exit _) ?_ | refine W_tail (a := .block _ _) ?_ | refine QB_normal ?_ | refine QB_exit ?_ | refine QB_ret ?_ | refine QB_out (by decide) ?_ | refine QL_next ?_ | refine QL_exit ?_ | refine QL_ret ?_ | refine QL_out (by decide) ?_ | (show Fin _ _ .ret _; exact Fin_ret (by first | (simp [c11]; done) | (simp [c11]; with_reducible rfl))) | (show Fin _ _ .normal _; exact Fin_end (by first | (simp [c11]; done) | (simp [c11]; with_reducible rfl))))
      · obtain ⟨M, rfl⟩ : ∃ M, w = M + 1 := ⟨w - 1, by omega⟩
        have hg1 := hget M (by omega)
        have hw1 : IntKind.i64.wrap (M : Int) = (M : Int) := wrap_id _ (by omega) (by omega)
        have hME : M < E.length := by omega
        have hM : M < ps.length := by omega
        have hwle : M + 1 ≤ ps.length := by omega
        have hp1 : (0 : Int) < (M : Int) + 1 := by omega
        have hp0 : (0 : Int) ≤ (M : Int) + 1 := by omega
        have ht : ((M : Int) + 1).toNat = M + 1 := by omega
        have hwE : M + 1 < E.length := by omega
        simp at hlt' hwl
        generalize (J (ps.take (M + 1 + 1))).length = e at *
        generalize (J (ps.take (M + 1))).length = e1 at *
        generalize J ps = B at *
        unfold c11_k1
        refine W_round hc ?_
        unfold c11_l1
        repeat (first | refine W_assoc ?_ | (show W _ (.seq (.region _ _) _) _ _; refine W_reg (by simp; with_reducible rfl) ?_) | (show R _ _ _ (_ :: _) _ _ _ _; refine R_op (by simp (maxSteps := 2000000) [hlt, hlt', hwl, hwle, hwE, hg, hg1, hin, hin', hcl, hc2, f1, f2, hw1, hp1, hp0, ht, hM, hME, V_works03]; with_reducible rfl) ?_) | (show R _ _ _ [] _ _ _ _; refine R_nil (by simp; with_reducible rfl) ?_) | (show W _ (.seq (.cond _ _ _) _) _ _; first | refine W_ct (by first | (simp [hlt, hlt', hwl, hwle, hwE, hg, hg1, hin, hin', hcl, hc2, f1, f2, hw1, hp1, hp0, ht, hM, hME, V_works03]; done) | fail) ?_ | refine W_cf (by first | (simp [hlt, hlt', hwl, hwle, hwE, hg, hg1, hin, hin', hcl, hc2, f1, f2, hw1, hp1, hp0, ht, hM, hME, V_works03]; done) | fail) ?_) | refine W_skip ?_ | refine W_bl (c := .seq _ _) ?_ | refine W_bl (c := .region _ _) ?_ | refine W_bl (c := .cond _ _ _) ?_ | refine W_bl (c := .block _ _) ?_ | refine W_rt ?_ | refine W_ex ?_ | refine W_end ?_ | refine W_tail (a := .region _ _) ?_ | refine W_tail (a := .cond _ _ _) ?_ | refine W_tail (a := .ret) ?_ | refine W_tail (a := .exit _) ?_ | refine W_tail (a := .block _ _) ?_ | refine QB_normal ?_ | refine QB_exit ?_ | refine QB_ret ?_ | refine QB_out (by decide) ?_ | refine QL_next ?_ | refine QL_exit ?_ | refine QL_ret ?_ | refine QL_out (by decide) ?_ | (show Fin _ _ .ret _; exact Fin_ret (by first | (simp [c11]; done) | (simp [c11]; with_reducible rfl))) | (show Fin _ _ .normal _; exact Fin_end (by first | (simp [c11]; done) | (simp [c11]; with_reducible rfl))))

theorem torn_loop (ps : List ByteArray) (hf : Few ps) (cut : Int) : ∀ (n i : Nat) (st : ASt), i + n = ps.length → 0 < i → canon [0, 1, 5, 6, 7] st = ⟨[.ro 1 (enc eStr ps) false, .int .i64 cut, .top, .top, .top, .ro 1 (enc (eInt .u8) (J (ps.take i))) false, .own 0 0 i, .int .i64 i, .top, .top, .top, .top, .top, .top, .top, .top, .top, .top, .top, .top, .top, .top, .top, .top, .top, .top, .top, .top, .top, .top, .top, .top, .top, .top, .top, .top, .top, .top, .top, .top, .top, .top, .top, .top, .top, .top, .top, .top, .top, .top, .top, .top, .top, .top, .top, .top, .top, .top, .top, .top, .top, .top, .top, .top, .top, .top, .top, .top, .top, .top, .top, .top, .top, .top, .top, .top, .top, .top, .top, .top, .top, .top, .top], [(0, ⟨3, 1, false, enc (eInt .i64) (En ps i), 0⟩)], 1, 0⟩ →
    W T c11_k0 st (Lift.Fin c11 (.bool true, [])) := by
  have hjl := J_len ps hf.each
  have h20 := hf.n
  intro n
  induction n with
  | zero =>
    intro i st hi h0 hc
    obtain rfl : i = ps.length := by omega
    rw [List.take_length] at hc
    have h1 : ¬ (ps.length : Int) < ps.length := by omega
    have hJ0 : (J (ps.take 0)).length = 0 := rfl
    have key := fun c hc2 st h => whole_loop ps hf h0 c hc2 ps.length 0 st (by omega) (by omega) h
    generalize En ps ps.length = E at *
    generalize J ps = B at *
    unfold c11_k0
    refine W_round hc ?_
    unfold c11_l0
    by_cases a1 : cut < 0
    · repeat (first | refine W_assoc ?_ | (show W _ (.seq (.region _ _) _) _ _; refine W_reg (by simp; with_reducible rfl) ?_) | (show R _ _ _ (_ :: _) _ _ _ _; refine R_op (by simp (maxSteps := 2000000) [h1, a1]; with_reducible rfl) ?_) | (show R _ _ _ [] _ _ _ _; refine R_nil (by simp; with_reducible rfl) ?_) | (show W _ (.seq (.cond _ _ _) _) _ _; first | refine W_ct (by first | (simp [h1, a1]; done) | fail) ?_ | refine W_cf (by first | (simp [h1, a1]; done) | fail) ?_) | refine W_skip ?_ | refine W_bl (c := .seq _ _) ?_ | refine W_bl (c := .region _ _) ?_ | refine W_bl (c := .cond _ _ _) ?_ | refine W_bl (c := .block _ _) ?_ | refine W_rt ?_ | refine W_ex ?_ | refine W_end ?_ | refine W_tail (a := .region _ _) ?_ | refine W_tail (a := .cond _ _ _) ?_ | refine W_tail (a := .ret) ?_ | refine W_tail (a := .exit _) ?_ | refine W_tail (a := .block _ _) ?_ | refine QB_normal ?_ | refine QB_exit ?_ | refine QB_ret ?_ | refine QB_out (by decide) ?_ | refine QL_next ?_ | refine QL_exit ?_ | refine QL_ret ?_ | refine QL_out (by decide) ?_ | (show Fin _ _ .ret _; exact Fin_ret (by first | (simp; done) | (simp; with_reducible rfl))) | (show Fin _ _ .normal _; exact Fin_end (by first | (simp; done) | (simp; with_reducible rfl))))
      refine key B.length (Nat.le_refl _) _ ?_
      simp; try rfl
    · by_cases a2 : (B.length : Int) < cut
      · repeat (first | refine W_assoc ?_ | (show W _ (.seq (.region _ _) _) _ _; refine W_reg (by simp; with_reducible rfl) ?_) | (show R _ _ _ (_ :: _) _ _ _ _; refine R_op (by simp (maxSteps := 2000000) [h1, a1, a2]; with_reducible rfl) ?_) | (show R _ _ _ [] _ _ _ _; refine R_nil (by simp; with_reducible rfl) ?_) | (show W _ (.seq (.cond _ _ _) _) _ _; first | refine W_ct (by first | (simp [h1, a1, a2]; done) | fail) ?_ | refine W_cf (by first | (simp [h1, a1, a2]; done) | fail) ?_) | refine W_skip ?_ | refine W_bl (c := .seq _ _) ?_ | refine W_bl (c := .region _ _) ?_ | refine W_bl (c := .cond _ _ _) ?_ | refine W_bl (c := .block _ _) ?_ | refine W_rt ?_ | refine W_ex ?_ | refine W_end ?_ | refine W_tail (a := .region _ _) ?_ | refine W_tail (a := .cond _ _ _) ?_ | refine W_tail (a := .ret) ?_ | refine W_tail (a := .exit _) ?_ | refine W_tail (a := .block _ _) ?_ | refine QB_normal ?_ | refine QB_exit ?_ | refine QB_ret ?_ | refine QB_out (by decide) ?_ | refine QL_next ?_ | refine QL_exit ?_ | refine QL_ret ?_ | refine QL_out (by decide) ?_ | (show Fin _ _ .ret _; exact Fin_ret (by first | (simp; done) | (simp; with_reducible rfl))) | (show Fin _ _ .normal _; exact Fin_end (by first | (simp; done) | (simp; with_reducible rfl))))
        refine key B.length (Nat.le_refl _) _ ?_
        simp; try rfl
      · obtain ⟨c, rfl⟩ := Int.eq_ofNat_of_zero_le (show 0 ≤ cut by omega)
        have a3 : ¬ B.length < c := by omega
        repeat (first | refine W_assoc ?_ | (show W _ (.seq (.region _ _) _) _ _; refine W_reg (by simp; with_reducible rfl) ?_) | (show R _ _ _ (_ :: _) _ _ _ _; refine R_op (by simp (maxSteps := 2000000) [h1, a1, a2, a3]; with_reducible rfl) ?_) | (show R _ _ _ [] _ _ _ _; refine R_nil (by simp; with_reducible rfl) ?_) | (show W _ (.seq (.cond _ _ _) _) _ _; first | refine W_ct (by first | (simp [h1, a1, a2, a3]; done) | fail) ?_ | refine W_cf (by first | (simp [h1, a1, a2, a3]; done) | fail) ?_) | refine W_skip ?_ | refine W_bl (c := .seq _ _) ?_ | refine W_bl (c := .region _ _) ?_ | refine W_bl (c := .cond _ _ _) ?_ | refine W_bl (c := .block _ _) ?_ | refine W_rt ?_ | refine W_ex ?_ | refine W_end ?_ | refine W_tail (a := .region _ _) ?_ | refine W_tail (a := .cond _ _ _) ?_ | refine W_tail (a := .ret) ?_ | refine W_tail (a := .exit _) ?_ | refine W_tail (a := .block _ _) ?_ | refine QB_normal ?_ | refine QB_exit ?_ | refine QB_ret ?_ | refine QB_out (by decide) ?_ | refine QL_next ?_ | refine QL_exit ?_ | refine QL_ret ?_ | refine QL_out (by decide) ?_ | (show Fin _ _ .ret _; exact Fin_ret (by first | (simp; done) | (simp; with_reducible rfl))) | (show Fin _ _ .normal _; exact Fin_end (by first | (simp; done) | (simp; with_reducible rfl))))
        refine key c (by omega) _ ?_
        simp; try rfl
  | succ n ih =>
    intro i st hi h0 hc
    have hlt : i < ps.length := by omega
    have hlt' : (i : Int) < ps.length := by omega
    have hw := wrapS i _ hlt (by omega)
    have hsz := hf.each ps[i] (List.getElem_mem hlt)
    have hji := J_len (ps.take i) (hf.take i).each
    have hti : (ps.take i).length = i := by simp; omega
    have f1 := FV_of (F_Put _ (J (ps.take i)) (.inl rfl) (by omega) ps[i])
    rw [putB_few _ hsz, ← J_snoc ps i hlt] at f1
    simp at f1
    have ih' := ih (i + 1)
    rw [En_succ] at ih'
    have hEl : (En ps i).length = i := En_len ps i
    have b1 : (i + 1) * 8 ≤ 140737488355328 := by omega
    have b2 : i + 1 ≤ 140737488355328 := by omega
    generalize J (ps.take (i + 1)) = B' at *
    generalize J (ps.take i) = B at *
    generalize En ps i = E at *
    unfold c11_k0
    refine W_round hc ?_
    unfold c11_l0
    repeat (first | refine W_assoc ?_ | (show W _ (.seq (.region _ _) _) _ _; refine W_reg (by simp; with_reducible rfl) ?_) | (show R _ _ _ (_ :: _) _ _ _ _; refine R_op (by simp (maxSteps := 2000000) [hlt, hlt', hw, f1, hEl, b1, b2]; with_reducible rfl) ?_) | (show R _ _ _ [] _ _ _ _; refine R_nil (by simp; with_reducible rfl) ?_) | (show W _ (.seq (.cond _ _ _) _) _ _; first | refine W_ct (by first | (simp [hlt, hlt', hw, f1, hEl, b1, b2]; done) | fail) ?_ | refine W_cf (by first | (simp [hlt, hlt', hw, f1, hEl, b1, b2]; done) | fail) ?_) | refine W_skip ?_ | refine W_bl (c := .seq _ _) ?_ | refine W_bl (c := .region _ _) ?_ | refine W_bl (c := .cond _ _ _) ?_ | refine W_bl (c := .block _ _) ?_ | refine W_rt ?_ | refine W_ex ?_ | refine W_end ?_ | refine W_tail (a := .region _ _) ?_ | refine W_tail (a := .cond _ _ _) ?_ | refine W_tail (a := .ret) ?_ | refine W_tail (a := .exit _) ?_ | refine W_tail (a := .block _ _) ?_ | refine QB_normal ?_ | refine QB_exit ?_ | refine QB_ret ?_ | refine QB_out (by decide) ?_ | refine QL_next ?_ | refine QL_exit ?_ | refine QL_ret ?_ | refine QL_out (by decide) ?_ | (show Fin _ _ .ret _; exact Fin_ret (by first | (simp; done) | (simp; with_reducible rfl))) | (show Fin _ _ .normal _; exact Fin_end (by first | (simp; done) | (simp; with_reducible rfl))))
    refine ih' _ ?_ ?_ ?_
    · omega
    · omega
    · simp [hEl, List.take_of_length_le]; try rfl

theorem frameTorn (ps : List ByteArray) (hps : ps.length ≤ 9223372036854775807) (cut : Int) : F T 11 [.ro 1 (enc eStr ps) false, .int .i64 cut] [] = some (.bool true, []) := by
  have v1 := V_Long ps hps 20 200
  refine F_W T11 ?_
  simp only [c11, c11_b, Lift.start]
  cases hb : ((ps.any fun s => decide ((200 : Int) < (s.size : Int))) || decide ((20 : Int) < (ps.length : Int))) with
  | true =>
    rw [hb] at v1
    repeat (first | refine W_assoc ?_ | (show W _ (.seq (.region _ _) _) _ _; refine W_reg (by simp; with_reducible rfl) ?_) | (show R _ _ _ (_ :: _) _ _ _ _; refine R_op (by simp (maxSteps := 2000000) [v1, V_works03]; with_reducible rfl) ?_) | (show R _ _ _ [] _ _ _ _; refine R_nil (by simp; with_reducible rfl) ?_) | (show W _ (.seq (.cond _ _ _) _) _ _; first | refine W_ct (by first | (simp [v1, V_works03]; done) | fail) ?_ | refine W_cf (by first | (simp [v1, V_works03]; done) | fail) ?_) | refine W_skip ?_ | refine W_bl (c := .seq _ _) ?_ | refine W_bl (c := .region _ _) ?_ | refine W_bl (c := .cond _ _ _) ?_ | refine W_bl (c := .block _ _) ?_ | refine W_rt ?_ | refine W_ex ?_ | refine W_end ?_ | refine W_tail (a := .region _ _) ?_ | refine W_tail (a := .cond _ _ _) ?_ | refine W_tail (a := .ret) ?_ | refine W_tail (a := .exit _) ?_ | refine W_tail (a := .block _ _) ?_ | refine QB_normal ?_ | refine QB_exit ?_ | refine QB_ret ?_ | refine QB_out (by decide) ?_ | refine QL_next ?_ | refine QL_exit ?_ | refine QL_ret ?_ | refine QL_out (by decide) ?_ | (show Fin _ _ .ret _; exact Fin_ret (by first | (simp [c11]; done) | (simp [c11]; with_reducible rfl))) | (show Fin _ _ .normal _; exact Fin_end (by first | (simp [c11]; done) | (simp [c11]; with_reducible rfl))))
  | false =>
    rw [hb] at v1
    have hf := few_of hb
    clear hb
    have h20 := hf.n
    by_cases hn : ps = []
    · subst hn
      have f1 := F_All [] (by simp) (by simp)
      have f1' := FV_of f1
      have f2 := V_RSame [] (by simp)
      simp [allP] at f1 f1' f2
      simp only [enc_nil, List.length_nil] at v1 ⊢
      have hend : ∀ (st : ASt), canon [0, 1, 5, 6, 8] st = ⟨[.ro 1 [] false, .int .i64 0, .top, .top, .top, .own 0 0 0, .own 1 0 0, .top, .int .i64 0, .top, .top, .top, .top, .top, .top, .top, .top, .top, .top, .top, .top, .top, .top, .top, .top, .top, .top, .top, .top, .top, .top, .top, .top, .top, .top, .top, .top, .top, .top, .top, .top, .top, .top, .top, .top, .top, .top, .top, .top, .top, .top, .top, .top, .top, .top, .top, .top, .top, .top, .top, .top, .top, .top, .top, .top, .top, .top, .top, .top, .top, .top, .top, .top, .top, .top, .top, .top, .top, .top, .top, .top, .top, .top], [(0, ⟨5, 1, false, [], 0⟩), (1, ⟨3, 1, false, [], 0⟩)], 2, 0⟩ → W T c11_k1 st (Lift.Fin c11 (.bool true, [])) := by
        intro st hc
        unfold c11_k1
        refine W_round hc ?_
        unfold c11_l1
        repeat (first | refine W_assoc ?_ | (show W _ (.seq (.region _ _) _) _ _; refine W_reg (by simp; with_reducible rfl) ?_) | (show R _ _ _ (_ :: _) _ _ _ _; refine R_op (by simp (maxSteps := 2000000) [f1, f1', f2, V_works03]; with_reducible rfl) ?_) | (show R _ _ _ [] _ _ _ _; refine R_nil (by simp; with_reducible rfl) ?_) | (show W _ (.seq (.cond _ _ _) _) _ _; first | refine W_ct (by first | (simp [f1, f1', f2, V_works03]; done) | fail) ?_ | refine W_cf (by first | (simp [f1, f1', f2, V_works03]; done) | fail) ?_) | refine W_skip ?_ | refine W_bl (c := .seq _ _) ?_ | refine W_bl (c := .region _ _) ?_ | refine W_bl (c := .cond _ _ _) ?_ | refine W_bl (c := .block _ _) ?_ | refine W_rt ?_ | refine W_ex ?_ | refine W_end ?_ | refine W_tail (a := .region _ _) ?_ | refine W_tail (a := .cond _ _ _) ?_ | refine W_tail (a := .ret) ?_ | refine W_tail (a := .exit _) ?_ | refine W_tail (a := .block _ _) ?_ | refine QB_normal ?_ | refine QB_exit ?_ | refine QB_ret ?_ | refine QB_out (by decide) ?_ | refine QL_next ?_ | refine QL_exit ?_ | refine QL_ret ?_ | refine QL_out (by decide) ?_ | (show Fin _ _ .ret _; exact Fin_ret (by first | (simp [c11]; done) | (simp [c11]; with_reducible rfl))) | (show Fin _ _ .normal _; exact Fin_end (by first | (simp [c11]; done) | (simp [c11]; with_reducible rfl))))
      repeat (first | refine W_assoc ?_ | (show W _ (.seq (.region _ _) _) _ _; refine W_reg (by simp; with_reducible rfl) ?_) | (show R _ _ _ (_ :: _) _ _ _ _; refine R_op (by simp (maxSteps := 2000000) [v1]; with_reducible rfl) ?_) | (show R _ _ _ [] _ _ _ _; refine R_nil (by simp; with_reducible rfl) ?_) | (show W _ (.seq (.cond _ _ _) _) _ _; first | refine W_ct (by first | (simp [v1]; done) | fail) ?_ | refine W_cf (by first | (simp [v1]; done) | fail) ?_) | refine W_skip ?_ | refine W_bl (c := .seq _ _) ?_ | refine W_bl (c := .region _ _) ?_ | refine W_bl (c := .cond _ _ _) ?_ | refine W_bl (c := .block _ _) ?_ | refine W_rt ?_ | refine W_ex ?_ | refine W_end ?_ | refine W_tail (a := .region _ _) ?_ | refine W_tail (a := .cond _ _ _) ?_ | refine W_tail (a := .ret) ?_ | refine W_tail (a := .exit _) ?_ | refine W_tail (a := .block _ _) ?_ | refine QB_normal ?_ | refine QB_exit ?_ | refine QB_ret ?_ | refine QB_out (by decide) ?_ | refine QL_next ?_ | refine QL_exit ?_ | refine QL_ret ?_ | refine QL_out (by decide) ?_ | (show Fin _ _ .ret _; exact Fin_ret (by first | (simp; done) | (simp; with_reducible rfl))) | (show Fin _ _ .normal _; exact Fin_end (by first | (simp; done) | (simp; with_reducible rfl))))
      refine W_round (st1 := ⟨[.ro 1 [] false, .int .i64 cut, .top, .top, .top, .own 0 0 0, .own 1 0 0, .int .i64 0, .top, .top, .top, .top, .top, .top, .top, .top, .top, .top, .top, .top, .top, .top, .top, .top, .top, .top, .top, .top, .top, .top, .top, .top, .top, .top, .top, .top, .top, .top, .top, .top, .top, .top, .top, .top, .top, .top, .top, .top, .top, .top, .top, .top, .top, .top, .top, .top, .top, .top, .top, .top, .top, .top, .top, .top, .top, .top, .top, .top, .top, .top, .top, .top, .top, .top, .top, .top, .top, .top, .top, .top, .top, .top, .top], [(0, ⟨5, 1, false, [], 0⟩), (1, ⟨3, 1, false, [], 0⟩)], 2, 0⟩) (by simp) ?_
      unfold c11_l0
      by_cases a1 : cut < 0
      · repeat (first | refine W_assoc ?_ | (show W _ (.seq (.region _ _) _) _ _; refine W_reg (by simp; with_reducible rfl) ?_) | (show R _ _ _ (_ :: _) _ _ _ _; refine R_op (by simp (maxSteps := 2000000) [a1]; with_reducible rfl) ?_) | (show R _ _ _ [] _ _ _ _; refine R_nil (by simp; with_reducible rfl) ?_) | (show W _ (.seq (.cond _ _ _) _) _ _; first | refine W_ct (by first | (simp [a1]; done) | fail) ?_ | refine W_cf (by first | (simp [a1]; done) | fail) ?_) | refine W_skip ?_ | refine W_bl (c := .seq _ _) ?_ | refine W_bl (c := .region _ _) ?_ | refine W_bl (c := .cond _ _ _) ?_ | refine W_bl (c := .block _ _) ?_ | refine W_rt ?_ | refine W_ex ?_ | refine W_end ?_ | refine W_tail (a := .region _ _) ?_ | refine W_tail (a := .cond _ _ _) ?_ | refine W_tail (a := .ret) ?_ | refine W_tail (a := .exit _) ?_ | refine W_tail (a := .block _ _) ?_ | refine QB_normal ?_ | refine QB_exit ?_ | refine QB_ret ?_ | refine QB_out (by decide) ?_ | refine QL_next ?_ | refine QL_exit ?_ | refine QL_ret ?_ | refine QL_out (by decide) ?_ | (show Fin _ _ .ret _; exact Fin_ret (by first | (simp; done) | (simp; with_reducible rfl))) | (show Fin _ _ .normal _; exact Fin_end (by first | (simp; done) | (simp; with_reducible rfl))))
        refine hend _ ?_
        simp; try rfl
      · by_cases a2 : 0 < cut
        · repeat (first | refine W_assoc ?_ | (show W _ (.seq (.region _ _) _) _ _; refine W_reg (by simp; with_reducible rfl) ?_) | (show R _ _ _ (_ :: _) _ _ _ _; refine R_op (by simp (maxSteps := 2000000) [a1, a2]; with_reducible rfl) ?_) | (show R _ _ _ [] _ _ _ _; refine R_nil (by simp; with_reducible rfl) ?_) | (show W _ (.seq (.cond _ _ _) _) _ _; first | refine W_ct (by first | (simp [a1, a2]; done) | fail) ?_ | refine W_cf (by first | (simp [a1, a2]; done) | fail) ?_) | refine W_skip ?_ | refine W_bl (c := .seq _ _) ?_ | refine W_bl (c := .region _ _) ?_ | refine W_bl (c := .cond _ _ _) ?_ | refine W_bl (c := .block _ _) ?_ | refine W_rt ?_ | refine W_ex ?_ | refine W_end ?_ | refine W_tail (a := .region _ _) ?_ | refine W_tail (a := .cond _ _ _) ?_ | refine W_tail (a := .ret) ?_ | refine W_tail (a := .exit _) ?_ | refine W_tail (a := .block _ _) ?_ | refine QB_normal ?_ | refine QB_exit ?_ | refine QB_ret ?_ | refine QB_out (by decide) ?_ | refine QL_next ?_ | refine QL_exit ?_ | refine QL_ret ?_ | refine QL_out (by decide) ?_ | (show Fin _ _ .ret _; exact Fin_ret (by first | (simp; done) | (simp; with_reducible rfl))) | (show Fin _ _ .normal _; exact Fin_end (by first | (simp; done) | (simp; with_reducible rfl))))
          refine hend _ ?_
          simp; try rfl
        · obtain rfl : cut = 0 := by omega
          repeat (first | refine W_assoc ?_ | (show W _ (.seq (.region _ _) _) _ _; refine W_reg (by simp; with_reducible rfl) ?_) | (show R _ _ _ (_ :: _) _ _ _ _; refine R_op (by simp (maxSteps := 2000000); with_reducible rfl) ?_) | (show R _ _ _ [] _ _ _ _; refine R_nil (by simp; with_reducible rfl) ?_) | (show W _ (.seq (.cond _ _ _) _) _ _; first | refine W_ct (by first | (simp; done) | fail) ?_ | refine W_cf (by first | (simp; done) | fail) ?_) | refine W_skip ?_ | refine W_bl (c := .seq _ _) ?_ | refine W_bl (c := .region _ _) ?_ | refine W_bl (c := .cond _ _ _) ?_ | refine W_bl (c := .block _ _) ?_ | refine W_rt ?_ | refine W_ex ?_ | refine W_end ?_ | refine W_tail (a := .region _ _) ?_ | refine W_tail (a := .cond _ _ _) ?_ | refine W_tail (a := .ret) ?_ | refine W_tail (a := .exit _) ?_ | refine W_tail (a := .block _ _) ?_ | refine QB_normal ?_ | refine QB_exit ?_ | refine QB_ret ?_ | refine QB_out (by decide) ?_ | refine QL_next ?_ | refine QL_exit ?_ | refine QL_ret ?_ | refine QL_out (by decide) ?_ | (show Fin _ _ .ret _; exact Fin_ret (by first | (simp; done) | (simp; with_reducible rfl))) | (show Fin _ _ .normal _; exact Fin_end (by first | (simp; done) | (simp; with_reducible rfl))))
          refine hend _ ?_
          simp; try rfl
    · have hpos : 0 < ps.length := List.length_pos_iff.2 hn
      have hpos' : (0 : Int) < ps.length := by omega
      have hsz := hf.each ps[0] (List.getElem_mem hpos)
      have f1 := F_Put _ [] (.inl rfl) (by simp) ps[0]
      rw [putB_few _ hsz, List.nil_append, show frameB (sb ps[0]) = J (ps.take 1) by rw [J_snoc ps 0 hpos]; rfl] at f1
      simp at f1
      have hL := torn_loop ps hf cut (ps.length - 1) 1
      rw [show En ps 1 = [((J (ps.take 1)).length : Int)] from rfl] at hL
      have hw := wrapS 0 1 (by omega) (by omega)
      generalize J (ps.take 1) = B at *
      repeat (first | refine W_assoc ?_ | (show W _ (.seq (.region _ _) _) _ _; refine W_reg (by simp; with_reducible rfl) ?_) | (show R _ _ _ (_ :: _) _ _ _ _; refine R_op (by simp (maxSteps := 2000000) [v1, hpos, hpos']; with_reducible rfl) ?_) | (show R _ _ _ [] _ _ _ _; refine R_nil (by simp; with_reducible rfl) ?_) | (show W _ (.seq (.cond _ _ _) _) _ _; first | refine W_ct (by first | (simp [v1, hpos, hpos']; done) | fail) ?_ | refine W_cf (by first | (simp [v1, hpos, hpos']; done) | fail) ?_) | refine W_skip ?_ | refine W_bl (c := .seq _ _) ?_ | refine W_bl (c := .region _ _) ?_ | refine W_bl (c := .cond _ _ _) ?_ | refine W_bl (c := .block _ _) ?_ | refine W_rt ?_ | refine W_ex ?_ | refine W_end ?_ | refine W_tail (a := .region _ _) ?_ | refine W_tail (a := .cond _ _ _) ?_ | refine W_tail (a := .ret) ?_ | refine W_tail (a := .exit _) ?_ | refine W_tail (a := .block _ _) ?_ | refine QB_normal ?_ | refine QB_exit ?_ | refine QB_ret ?_ | refine QB_out (by decide) ?_ | refine QL_next ?_ | refine QL_exit ?_ | refine QL_ret ?_ | refine QL_out (by decide) ?_ | (show Fin _ _ .ret _; exact Fin_ret (by first | (simp; done) | (simp; with_reducible rfl))) | (show Fin _ _ .normal _; exact Fin_end (by first | (simp; done) | (simp; with_reducible rfl))))
      refine W_round (st1 := ⟨[.ro 1 (enc eStr ps) false, .int .i64 cut, .top, .top, .top, .own 0 0 0, .own 1 0 0, .int .i64 0, .top, .top, .top, .top, .top, .top, .top, .top, .top, .top, .top, .top, .top, .top, .top, .top, .top, .top, .top, .top, .top, .top, .top, .top, .top, .top, .top, .top, .top, .top, .top, .top, .top, .top, .top, .top, .top, .top, .top, .top, .top, .top, .top, .top, .top, .top, .top, .top, .top, .top, .top, .top, .top, .top, .top, .top, .top, .top, .top, .top, .top, .top, .top, .top, .top, .top, .top, .top, .top, .top, .top, .top, .top, .top, .top], [(0, ⟨5, 1, false, [], 0⟩), (1, ⟨3, 1, false, [], 0⟩)], 2, 0⟩) (by simp) ?_
      unfold c11_l0
      repeat (first | refine W_assoc ?_ | (show W _ (.seq (.region _ _) _) _ _; refine W_reg (by simp; with_reducible rfl) ?_) | (show R _ _ _ (_ :: _) _ _ _ _; refine R_op (by simp (maxSteps := 2000000) [hpos, hpos', f1, hw]; with_reducible rfl) ?_) | (show R _ _ _ [] _ _ _ _; refine R_nil (by simp; with_reducible rfl) ?_) | (show W _ (.seq (.cond _ _ _) _) _ _; first | refine W_ct (by first | (simp [hpos, hpos', f1, hw]; done) | fail) ?_ | refine W_cf (by first | (simp [hpos, hpos', f1, hw]; done) | fail) ?_) | refine W_skip ?_ | refine W_bl (c := .seq _ _) ?_ | refine W_bl (c := .region _ _) ?_ | refine W_bl (c := .cond _ _ _) ?_ | refine W_bl (c := .block _ _) ?_ | refine W_rt ?_ | refine W_ex ?_ | refine W_end ?_ | refine W_tail (a := .region _ _) ?_ | refine W_tail (a := .cond _ _ _) ?_ | refine W_tail (a := .ret) ?_ | refine W_tail (a := .exit _) ?_ | refine W_tail (a := .block _ _) ?_ | refine QB_normal ?_ | refine QB_exit ?_ | refine QB_ret ?_ | refine QB_out (by decide) ?_ | refine QL_next ?_ | refine QL_exit ?_ | refine QL_ret ?_ | refine QL_out (by decide) ?_ | (show Fin _ _ .ret _; exact Fin_ret (by first | (simp; done) | (simp; with_reducible rfl))) | (show Fin _ _ .normal _; exact Fin_end (by first | (simp; done) | (simp; with_reducible rfl))))
      refine hL _ ?_ ?_ ?_
      · omega
      · omega
      · simp; try rfl

end Go.Proofs.Ytnobgooojbppbac.Oct
