/- Reads of bytes, one behind the other: the program's and the document's. -/
import Derived.Test.YtnobgooojbppbacOctRef
set_option linter.all false
set_option linter.unusedSimpArgs false
set_option maxRecDepth 100000
set_option maxHeartbeats 8000000
namespace Go.Proofs.Ytnobgooojbppbac.Oct
open Go Go.RowKit Go.Proofs.Ytnobgooojbppbac.Lift Go.Proofs.Ytnobgooojbppbac.TOC Go.Proofs.Ytnobgooojbppbac.Base

abbrev P3 := Int × Int × Int
@[simp] def e3 (p : P3) : List AV := [.int .i64 p.1, .int .i64 p.2.1, .int .i64 p.2.2]
instance : Plain e3 := ⟨fun a => rfl⟩

theorem V_works01 : FV (F T) 14 [] = some (.bool true) := by
  have hw : F T 14 [] [] = some (.bool true, []) := F_iff.2 ⟨20, by kernel_rfl⟩
  have h := FV_of hw
  simpa using h

/-- Of a number's kind. -/
def WR (e : Int) : Prop := IntKind.i64.wrap e = e
theorem nxt_e (r : List Int) (m : Int) : (nxt r m).2.2 = 0 ∨ (nxt r m).2.2 = 2 ∨ (nxt r m).2.2 = 3 ∨ (nxt r m).2.2 = 4 := by
  cases r with
  | nil => simp [nxt]
  | cons a t =>
    rw [nxt.eq_def]
    simp only []
    split
    · unfold capped; split <;> simp
    · split
      · simp
      · split
        · simp
        · split
          · simp
          · unfold capped; split <;> simp
theorem WR_of {e : Int} (h : e = 0 ∨ e = 2 ∨ e = 3 ∨ e = 4) : WR e := by
  rcases h with rfl | rfl | rfl | rfl <;> rfl
theorem rdN_ok (r : List Int) (e m : Int) (hr : ∀ a ∈ r, 0 ≤ a ∧ a ≤ 255) (he : WR e) : (rdN r e m).2.1 ≤ r.length ∧ WR (rdN r e m).2.2 := by
  have h1 := nxt_ok r m hr
  have h2 := nxt_e r m
  unfold rdN
  split
  · exact ⟨by simp, he⟩
  · split
    · exact ⟨by simp, WR_of h2⟩
    · rename_i h3
      exact ⟨(h1 (by simpa using h3)).2.1, WR_of (.inl rfl)⟩
theorem rdT_ok (r : List Int) (e m : Int) (hr : ∀ a ∈ r, 0 ≤ a ∧ a ≤ 255) (he : WR e) : (rdT r e m).2.1 ≤ r.length ∧ WR (rdT r e m).2.2 := by
  have h1 := nxt_ok r m hr
  have h2 := nxt_e r m
  unfold rdT
  split
  · exact ⟨by simp, he⟩
  · split
    · exact ⟨by simp, WR_of h2⟩
    · rename_i h3
      obtain ⟨g1, g2, g3, g4⟩ := h1 (by simpa using h3)
      split
      · exact ⟨by simp, WR_of (.inr (.inl rfl))⟩
      · exact ⟨by simp only []; omega, WR_of (.inl rfl)⟩
theorem WR_end {e : Int} (n : Nat) (he : WR e) : WR (endE e n) := by
  unfold endE
  split
  · exact he
  · split
    · exact WR_of (.inr (.inr (.inl rfl)))
    · exact WR_of (.inl rfl)

theorem N_Fail : F T 20 [.nilP, .int .i64 3] [] = some (.tup [], []) := F_iff.2 ⟨20, by kernel_rfl⟩
theorem N_Num : F T 16 [.nilP, .int .i64 9] [] = some (.int .i64 0, []) := F_iff.2 ⟨20, by kernel_rfl⟩
theorem N_Text : F T 18 [.nilP, .int .i64 9] [] = some (.str ⟨⟨[]⟩⟩, []) := F_iff.2 ⟨20, by kernel_rfl⟩
theorem N_Left : F T 22 [.nilP] [] = some (.int .i64 0, []) := F_iff.2 ⟨20, by kernel_rfl⟩
theorem N_Err : F T 23 [.nilP] [] = some (.int .i64 1, []) := F_iff.2 ⟨20, by kernel_rfl⟩
theorem N_End : F T 24 [.nilP] [] = some (.int .i64 1, []) := F_iff.2 ⟨20, by kernel_rfl⟩

theorem InR.next {x : List Int} {lo n k : Nat} (h : InR x lo n) (hk : k ≤ n) : InR x (lo + k) (n - k) := ⟨h.hx, by have := h.hlo; omega, h.hn⟩

theorem reads_loop (asks : List P3) (ha : asks.length ≤ 60) (hok : ∀ a ∈ asks, WR a.2.2) (x : List Int) :
    ∀ (m i lo n : Nat) (e : Int) (rest : List Int) (st : ASt), i + m = asks.length → InR x lo n → WR e → x.drop lo = rest →
      canon [1, 5, 6, 7] st = ⟨[.top, .ro 3 (enc e3 asks) false, .top, .top, .top, .ref 0 0 0, .ref 1 0 0, .int .i64 i, .top, .top, .top, .top, .top, .top, .top, .top, .top, .top, .top, .top, .top, .top, .top, .top, .top, .top, .top, .top, .top, .top, .top, .top, .top, .top, .top, .top, .top, .top, .top, .top, .top, .top, .top, .top, .top, .top, .top, .top, .top, .top, .top, .top, .top, .top, .top, .top, .top, .top, .top, .top, .top, .top, .top, .top, .top, .top, .top, .top, .top, .top, .top, .top, .top, .top, .top, .top, .top, .top, .top, .top, .top, .top, .top, .top, .top, .top, .top, .top, .top, .top, .top, .top, .top, .top, .top, .top, .top, .top, .top, .top, .top, .top, .top, .top, .top, .top, .top, .top, .top, .top, .top, .top, .top, .top, .top, .top, .top, .top, .top, .top, .top, .top, .top, .top, .top, .top, .top, .top, .top, .top, .top, .top, .top, .top, .top, .top, .top, .top, .top, .top, .top, .top, .top, .top, .top, .top, .top, .top, .top, .top, .top, .top, .top, .top, .top, .top, .top, .top, .top, .top], [(0, ⟨101, 3, true, [[.own 2 lo n, .int .i64 e, .bool true]], 0⟩), (1, mv rest e), (2, rr x)], 3, 0⟩ →
      W T c3_k0 st (Lift.Fin c3 (.bool true, [])) := by
  intro m
  induction m with
  | zero =>
    intro i lo n e rest st hi hI he hr hc
    obtain rfl : i = asks.length := by omega
    unfold c3_k0
    refine W_round hc ?_
    unfold c3_l0
    repeat (first | refine W_assoc ?_ | (show W _ (.seq (.region _ _) _) _ _; refine W_reg (by simp; with_reducible rfl) ?_) | (show R _ _ _ (_ :: _) _ _ _ _; refine R_op (by simp (maxSteps := 2000000) [N_Fail, N_Num, N_Text, N_Left, N_Err, N_End, V_works01]; with_reducible rfl) ?_) | (show R _ _ _ [] _ _ _ _; refine R_nil (by simp; with_reducible rfl) ?_) | (show W _ (.seq (.cond _ _ _) _) _ _; first | refine W_ct (by first | (simp [N_Fail, N_Num, N_Text, N_Left, N_Err, N_End, V_works01]; done) | fail) ?_ | refine W_cf (by first | (simp [N_Fail, N_Num, N_Text, N_Left, N_Err, N_End, V_works01]; done) | fail) ?_) | refine W_skip ?_ | refine W_bl (c := .seq _ _) ?_ | refine W_bl (c := .region _ _) ?_ | refine W_bl (c := .cond _ _ _) ?_ | refine W_bl (c := .block _ _) ?_ | refine W_rt ?_ | refine W_ex ?_ | refine W_end ?_ | refine W_tail (a := .region _ _) ?_ | refine W_tail (a := .cond _ _ _) ?_ | refine W_tail (a := .ret) ?_ | refine W_tail (a := .exit _) ?_ | refine W_tail (a := .block _ _) ?_ | refine QB_normal ?_ | refine QB_exit ?_ | refine QB_ret ?_ | refine QB_out (by decide) ?_ | refine QL_next ?_ | refine QL_exit ?_ | refine QL_ret ?_ | refine QL_out (by decide) ?_ | (show Fin _ _ .ret _; exact Fin_ret (by first | (simp [c3]; done) | (simp [c3]; with_reducible rfl))) | (show Fin _ _ .normal _; exact Fin_end (by first | (simp [c3]; done) | (simp [c3]; with_reducible rfl))))
  | succ m ih =>
    intro i lo n e rest st hi hI he hr hc
    have hlt : i < asks.length := by omega
    have hlt' : (i : Int) < asks.length := by omega
    have hw := wrapS i _ hlt (by omega)
    have ho := hok asks[i] (List.getElem_mem hlt)
    have hlen : rest.length = n := by rw [← hr, List.length_drop]; have := hI.hlo; omega
    have hrg : ∀ a ∈ rest, 0 ≤ a ∧ a ≤ 255 := fun a h => by rw [← hr] at h; exact hI.hx a (List.mem_of_mem_drop h)
    have hrn : rest.length < 100000 := by have := hI.hn; have := hI.hlo; omega
    unfold c3_k0
    refine W_round hc ?_
    unfold c3_l0
    by_cases d0 : asks[i].1 = 0
    · have f1 := F_RNum hI e asks[i].2.1
      have f2 := F_MNum rest e asks[i].2.1 hrg hrn
      obtain ⟨hk, hc'⟩ := rdN_ok rest e asks[i].2.1 hrg he
      rw [hr] at f1
      generalize rdN rest e asks[i].2.1 = q at *
      obtain ⟨a, k, c⟩ := q
      simp only [] at f1 f2 hk hc'
      have hc2 := WR_end (n - k) hc'
      have f3 := F_RLeft x (lo + k) (n - k) c
      have f4 := F_RErr x (lo + k) (n - k) c
      have f5 := F_REnd x (lo + k) (n - k) c
      have f6 := F_MEnd (rest.drop k) c
      rw [List.length_drop, hlen] at f6
      unfold WR at hc' hc2
      repeat (first | refine W_assoc ?_ | (show W _ (.seq (.region _ _) _) _ _; refine W_reg (by simp; with_reducible rfl) ?_) | (show R _ _ _ (_ :: _) _ _ _ _; refine R_op (by simp (maxSteps := 2000000) [hlt, hlt', hw, d0, f1, f2, f3, f4, f5, f6, hc', hc2, hlen]; with_reducible rfl) ?_) | (show R _ _ _ [] _ _ _ _; refine R_nil (by simp; with_reducible rfl) ?_) | (show W _ (.seq (.cond _ _ _) _) _ _; first | refine W_ct (by first | (simp [hlt, hlt', hw, d0, f1, f2, f3, f4, f5, f6, hc', hc2, hlen]; done) | fail) ?_ | refine W_cf (by first | (simp [hlt, hlt', hw, d0, f1, f2, f3, f4, f5, f6, hc', hc2, hlen]; done) | fail) ?_) | refine W_skip ?_ | refine W_bl (c := .seq _ _) ?_ | refine W_bl (c := .region _ _) ?_ | refine W_bl (c := .cond _ _ _) ?_ | refine W_bl (c := .block _ _) ?_ | refine W_rt ?_ | refine W_ex ?_ | refine W_end ?_ | refine W_tail (a := .region _ _) ?_ | refine W_tail (a := .cond _ _ _) ?_ | refine W_tail (a := .ret) ?_ | refine W_tail (a := .exit _) ?_ | refine W_tail (a := .block _ _) ?_ | refine QB_normal ?_ | refine QB_exit ?_ | refine QB_ret ?_ | refine QB_out (by decide) ?_ | refine QL_next ?_ | refine QL_exit ?_ | refine QL_ret ?_ | refine QL_out (by decide) ?_ | (show Fin _ _ .ret _; exact Fin_ret (by first | (simp; done) | (simp; with_reducible rfl))) | (show Fin _ _ .normal _; exact Fin_end (by first | (simp; done) | (simp; with_reducible rfl))))
      refine ih (i + 1) (lo + k) (n - k) c (rest.drop k) _ ?_ ?_ ?_ ?_ ?_
      · omega
      · exact hI.next (by omega)
      · exact hc'
      · rw [← hr, List.drop_drop]
      · simp; try rfl
    by_cases d1 : asks[i].1 = 1
    · have f1 := F_RText hI e asks[i].2.1
      have f2 := F_MText rest e asks[i].2.1 hrg hrn
      obtain ⟨hk, hc'⟩ := rdT_ok rest e asks[i].2.1 hrg he
      rw [hr] at f1
      generalize rdT rest e asks[i].2.1 = q at *
      obtain ⟨a, k, c⟩ := q
      simp only [] at f1 f2 hk hc'
      have hc2 := WR_end (n - k) hc'
      have f3 := F_RLeft x (lo + k) (n - k) c
      have f4 := F_RErr x (lo + k) (n - k) c
      have f5 := F_REnd x (lo + k) (n - k) c
      have f6 := F_MEnd (rest.drop k) c
      rw [List.length_drop, hlen] at f6
      unfold WR at hc' hc2
      repeat (first | refine W_assoc ?_ | (show W _ (.seq (.region _ _) _) _ _; refine W_reg (by simp; with_reducible rfl) ?_) | (show R _ _ _ (_ :: _) _ _ _ _; refine R_op (by simp (maxSteps := 2000000) [hlt, hlt', hw, d0, d1, f1, f2, f3, f4, f5, f6, hc', hc2, hlen]; with_reducible rfl) ?_) | (show R _ _ _ [] _ _ _ _; refine R_nil (by simp; with_reducible rfl) ?_) | (show W _ (.seq (.cond _ _ _) _) _ _; first | refine W_ct (by first | (simp [hlt, hlt', hw, d0, d1, f1, f2, f3, f4, f5, f6, hc', hc2, hlen]; done) | fail) ?_ | refine W_cf (by first | (simp [hlt, hlt', hw, d0, d1, f1, f2, f3, f4, f5, f6, hc', hc2, hlen]; done) | fail) ?_) | refine W_skip ?_ | refine W_bl (c := .seq _ _) ?_ | refine W_bl (c := .region _ _) ?_ | refine W_bl (c := .cond _ _ _) ?_ | refine W_bl (c := .block _ _) ?_ | refine W_rt ?_ | refine W_ex ?_ | refine W_end ?_ | refine W_tail (a := .region _ _) ?_ | refine W_tail (a := .cond _ _ _) ?_ | refine W_tail (a := .ret) ?_ | refine W_tail (a := .exit _) ?_ | refine W_tail (a := .block _ _) ?_ | refine QB_normal ?_ | refine QB_exit ?_ | refine QB_ret ?_ | refine QB_out (by decide) ?_ | refine QL_next ?_ | refine QL_exit ?_ | refine QL_ret ?_ | refine QL_out (by decide) ?_ | (show Fin _ _ .ret _; exact Fin_ret (by first | (simp; done) | (simp; with_reducible rfl))) | (show Fin _ _ .normal _; exact Fin_end (by first | (simp; done) | (simp; with_reducible rfl))))
      refine ih (i + 1) (lo + k) (n - k) c (rest.drop k) _ ?_ ?_ ?_ ?_ ?_
      · omega
      · exact hI.next (by omega)
      · exact hc'
      · rw [← hr, List.drop_drop]
      · simp; try rfl
    · have f1 := F_Fail x lo n e asks[i].2.2
      have f2 := F_MFail rest e asks[i].2.2
      have hc' : WR (if e = 0 then asks[i].2.2 else e) := by split <;> assumption
      have ho' := ho
      unfold WR at ho'
      generalize (if e = 0 then asks[i].2.2 else e) = c at *
      have hc2 := WR_end n hc'
      have f3 := F_RLeft x lo n c
      have f4 := F_RErr x lo n c
      have f5 := F_REnd x lo n c
      have f6 := F_MEnd rest c
      rw [hlen] at f6
      unfold WR at hc' hc2
      have d2 : asks[i].1 < 0 ∨ 1 < asks[i].1 := by omega
      by_cases d3 : asks[i].1 < 0
      · repeat (first | refine W_assoc ?_ | (show W _ (.seq (.region _ _) _) _ _; refine W_reg (by simp; with_reducible rfl) ?_) | (show R _ _ _ (_ :: _) _ _ _ _; refine R_op (by simp (maxSteps := 2000000) [hlt, hlt', hw, d0, d1, d3, ho', f1, f2, f3, f4, f5, f6, hc', hc2, hlen]; with_reducible rfl) ?_) | (show R _ _ _ [] _ _ _ _; refine R_nil (by simp; with_reducible rfl) ?_) | (show W _ (.seq (.cond _ _ _) _) _ _; first | refine W_ct (by first | (simp [hlt, hlt', hw, d0, d1, d3, ho', f1, f2, f3, f4, f5, f6, hc', hc2, hlen]; done) | fail) ?_ | refine W_cf (by first | (simp [hlt, hlt', hw, d0, d1, d3, ho', f1, f2, f3, f4, f5, f6, hc', hc2, hlen]; done) | fail) ?_) | refine W_skip ?_ | refine W_bl (c := .seq _ _) ?_ | refine W_bl (c := .region _ _) ?_ | refine W_bl (c := .cond _ _ _) ?_ | refine W_bl (c := .block _ _) ?_ | refine W_rt ?_ | refine W_ex ?_ | refine W_end ?_ | refine W_tail (a := .region _ _) ?_ | refine W_tail (a := .cond _ _ _) ?_ | refine W_tail (a := .ret) ?_ | refine W_tail (a := .exit _) ?_ | refine W_tail (a := .block _ _) ?_ | refine QB_normal ?_ | refine QB_exit ?_ | refine QB_ret ?_ | refine QB_out (by decide) ?_ | refine QL_next ?_ | refine QL_exit ?_ | refine QL_ret ?_ | refine QL_out (by decide) ?_ | (show Fin _ _ .ret _; exact Fin_ret (by first | (simp; done) | (simp; with_reducible rfl))) | (show Fin _ _ .normal _; exact Fin_end (by first | (simp; done) | (simp; with_reducible rfl))))
        refine ih (i + 1) lo n c rest _ ?_ ?_ ?_ ?_ ?_
        · omega
        · exact hI
        · exact hc'
        · exact hr
        · simp; try rfl
      · have d4 : 1 < asks[i].1 := by omega
        repeat (first | refine W_assoc ?_ | (show W _ (.seq (.region _ _) _) _ _; refine W_reg (by simp; with_reducible rfl) ?_) | (show R _ _ _ (_ :: _) _ _ _ _; refine R_op (by simp (maxSteps := 2000000) [hlt, hlt', hw, d0, d1, d3, d4, ho', f1, f2, f3, f4, f5, f6, hc', hc2, hlen]; with_reducible rfl) ?_) | (show R _ _ _ [] _ _ _ _; refine R_nil (by simp; with_reducible rfl) ?_) | (show W _ (.seq (.cond _ _ _) _) _ _; first | refine W_ct (by first | (simp [hlt, hlt', hw, d0, d1, d3, d4, ho', f1, f2, f3, f4, f5, f6, hc', hc2, hlen]; done) | fail) ?_ | refine W_cf (by first | (simp [hlt, hlt', hw, d0, d1, d3, d4, ho', f1, f2, f3, f4, f5, f6, hc', hc2, hlen]; done) | fail) ?_) | refine W_skip ?_ | refine W_bl (c := .seq _ _) ?_ | refine W_bl (c := .region _ _) ?_ | refine W_bl (c := .cond _ _ _) ?_ | refine W_bl (c := .block _ _) ?_ | refine W_rt ?_ | refine W_ex ?_ | refine W_end ?_ | refine W_tail (a := .region _ _) ?_ | refine W_tail (a := .cond _ _ _) ?_ | refine W_tail (a := .ret) ?_ | refine W_tail (a := .exit _) ?_ | refine W_tail (a := .block _ _) ?_ | refine QB_normal ?_ | refine QB_exit ?_ | refine QB_ret ?_ | refine QB_out (by decide) ?_ | refine QL_next ?_ | refine QL_exit ?_ | refine QL_ret ?_ | refine QL_out (by decide) ?_ | (show Fin _ _ .ret _; exact Fin_ret (by first | (simp; done) | (simp; with_reducible rfl))) | (show Fin _ _ .normal _; exact Fin_end (by first | (simp; done) | (simp; with_reducible rfl))))
        refine ih (i + 1) lo n c rest _ ?_ ?_ ?_ ?_ ?_
        · omega
        · exact hI
        · exact hc'
        · exact hr
        · simp; try rfl

theorem reads (x : List Int) (hx : ∀ a ∈ x, 0 ≤ a ∧ a ≤ 255) (asks : List P3) (hok : ∀ a ∈ asks, WR a.2.2) : F T 3 [.ro 1 (enc (eInt .u8) x) false, .ro 3 (enc e3 asks) false] [] = some (.bool true, []) := by
  refine F_W T3 ?_
  simp only [c3, c3_b, Lift.start]
  by_cases h1 : 2000 < x.length
  · have h1' : (2000 : Int) < x.length := by omega
    repeat (first | refine W_assoc ?_ | (show W _ (.seq (.region _ _) _) _ _; refine W_reg (by simp; with_reducible rfl) ?_) | (show R _ _ _ (_ :: _) _ _ _ _; refine R_op (by simp (maxSteps := 2000000) [h1, h1', V_works01]; with_reducible rfl) ?_) | (show R _ _ _ [] _ _ _ _; refine R_nil (by simp; with_reducible rfl) ?_) | (show W _ (.seq (.cond _ _ _) _) _ _; first | refine W_ct (by first | (simp [h1, h1', V_works01]; done) | fail) ?_ | refine W_cf (by first | (simp [h1, h1', V_works01]; done) | fail) ?_) | refine W_skip ?_ | refine W_bl (c := .seq _ _) ?_ | refine W_bl (c := .region _ _) ?_ | refine W_bl (c := .cond _ _ _) ?_ | refine W_bl (c := .block _ _) ?_ | refine W_rt ?_ | refine W_ex ?_ | refine W_end ?_ | refine W_tail (a := .region _ _) ?_ | refine W_tail (a := .cond _ _ _) ?_ | refine W_tail (a := .ret) ?_ | refine W_tail (a := .exit _) ?_ | refine W_tail (a := .block _ _) ?_ | refine QB_normal ?_ | refine QB_exit ?_ | refine QB_ret ?_ | refine QB_out (by decide) ?_ | refine QL_next ?_ | refine QL_exit ?_ | refine QL_ret ?_ | refine QL_out (by decide) ?_ | (show Fin _ _ .ret _; exact Fin_ret (by first | (simp [c3]; done) | (simp [c3]; with_reducible rfl))) | (show Fin _ _ .normal _; exact Fin_end (by first | (simp [c3]; done) | (simp [c3]; with_reducible rfl))))
  have h1' : ¬ (2000 : Int) < x.length := by omega
  by_cases h2 : 60 < asks.length
  · have h2' : (60 : Int) < asks.length := by omega
    repeat (first | refine W_assoc ?_ | (show W _ (.seq (.region _ _) _) _ _; refine W_reg (by simp; with_reducible rfl) ?_) | (show R _ _ _ (_ :: _) _ _ _ _; refine R_op (by simp (maxSteps := 2000000) [h1, h1', h2, h2', V_works01]; with_reducible rfl) ?_) | (show R _ _ _ [] _ _ _ _; refine R_nil (by simp; with_reducible rfl) ?_) | (show W _ (.seq (.cond _ _ _) _) _ _; first | refine W_ct (by first | (simp [h1, h1', h2, h2', V_works01]; done) | fail) ?_ | refine W_cf (by first | (simp [h1, h1', h2, h2', V_works01]; done) | fail) ?_) | refine W_skip ?_ | refine W_bl (c := .seq _ _) ?_ | refine W_bl (c := .region _ _) ?_ | refine W_bl (c := .cond _ _ _) ?_ | refine W_bl (c := .block _ _) ?_ | refine W_rt ?_ | refine W_ex ?_ | refine W_end ?_ | refine W_tail (a := .region _ _) ?_ | refine W_tail (a := .cond _ _ _) ?_ | refine W_tail (a := .ret) ?_ | refine W_tail (a := .exit _) ?_ | refine W_tail (a := .block _ _) ?_ | refine QB_normal ?_ | refine QB_exit ?_ | refine QB_ret ?_ | refine QB_out (by decide) ?_ | refine QL_next ?_ | refine QL_exit ?_ | refine QL_ret ?_ | refine QL_out (by decide) ?_ | (show Fin _ _ .ret _; exact Fin_ret (by first | (simp [c3]; done) | (simp [c3]; with_reducible rfl))) | (show Fin _ _ .normal _; exact Fin_end (by first | (simp [c3]; done) | (simp [c3]; with_reducible rfl))))
  have h2' : ¬ (60 : Int) < asks.length := by omega
  have v1 := F_New _ x (.inl rfl) (by omega)
  repeat (first | refine W_assoc ?_ | (show W _ (.seq (.region _ _) _) _ _; refine W_reg (by simp; with_reducible rfl) ?_) | (show R _ _ _ (_ :: _) _ _ _ _; refine R_op (by simp (maxSteps := 2000000) [h1, h1', h2, h2', v1]; with_reducible rfl) ?_) | (show R _ _ _ [] _ _ _ _; refine R_nil (by simp; with_reducible rfl) ?_) | (show W _ (.seq (.cond _ _ _) _) _ _; first | refine W_ct (by first | (simp [h1, h1', h2, h2', v1]; done) | fail) ?_ | refine W_cf (by first | (simp [h1, h1', h2, h2', v1]; done) | fail) ?_) | refine W_skip ?_ | refine W_bl (c := .seq _ _) ?_ | refine W_bl (c := .region _ _) ?_ | refine W_bl (c := .cond _ _ _) ?_ | refine W_bl (c := .block _ _) ?_ | refine W_rt ?_ | refine W_ex ?_ | refine W_end ?_ | refine W_tail (a := .region _ _) ?_ | refine W_tail (a := .cond _ _ _) ?_ | refine W_tail (a := .ret) ?_ | refine W_tail (a := .exit _) ?_ | refine W_tail (a := .block _ _) ?_ | refine QB_normal ?_ | refine QB_exit ?_ | refine QB_ret ?_ | refine QB_out (by decide) ?_ | refine QL_next ?_ | refine QL_exit ?_ | refine QL_ret ?_ | refine QL_out (by decide) ?_ | (show Fin _ _ .ret _; exact Fin_ret (by first | (simp; done) | (simp; with_reducible rfl))) | (show Fin _ _ .normal _; exact Fin_end (by first | (simp; done) | (simp; with_reducible rfl))))
  refine reads_loop asks (by omega) hok x asks.length 0 0 x.length 0 x _ ?_ ?_ ?_ ?_ ?_
  · omega
  · exact ⟨hx, by omega, by omega⟩
  · exact WR_of (.inl rfl)
  · simp
  · simp; try rfl

end Go.Proofs.Ytnobgooojbppbac.Oct
