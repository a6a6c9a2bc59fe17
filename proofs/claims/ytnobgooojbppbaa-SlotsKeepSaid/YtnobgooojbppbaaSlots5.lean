/- However slots are used. -/
import Derived.Test.YtnobgooojbppbaaSlots3
set_option linter.all false
set_option linter.unusedSimpArgs false
set_option maxRecDepth 100000
set_option maxHeartbeats 4000000
namespace Go.Proofs.Ytnobgooojbppbaa.Slots
open Go Go.RowKit Go.Proofs.Ytnobgooojbppbaa.Lift Go.Proofs.Ytnobgooojbppbaa.TS Go.Proofs.Ytnobgooojbppbaa.Base Go.Proofs.Ytnobgooojbppbaa.Queue

abbrev P3 := Int × Int × Int
@[simp] def e3 (p : P3) : List AV := [.int .i64 p.1, .int .i64 p.2.1, .int .i64 p.2.2]
instance : Plain e3 := ⟨fun a => rfl⟩

theorem V_works30' : FV (F T) 87 [] = some (.bool true) := by
  have hw : F T 87 [] [] = some (.bool true, []) := F_iff.2 ⟨200, by kernel_rfl⟩
  have h := FV_of hw
  simpa using h

theorem keep_loop (n : Int) (hn : 0 ≤ n) (hn255 : n ≤ 255) (l : List P3) (hl : l.length ≤ 100) :
    ∀ (k i : Nat) (aa oo rr : List P2) (fl : Bool) (st : ASt), i + k = l.length → aa.length ≤ i → oo.length ≤ i → rr.length ≤ i → (aa.length : Int) + rr.length ≤ n →
      canon [0, 1, 5, 6] st = ⟨[.int .u8 n, .ro 3 (enc e3 l) false, .top, .top, .top, .ref 0 0 0, .int .i64 i, .top, .top, .top, .top, .top, .top, .top, .top, .top, .top, .top, .top, .top, .top, .top, .top, .top, .top, .top, .top, .top, .top, .top, .top, .top, .top, .top, .top, .top, .top, .top, .top, .top, .top, .top, .top, .top, .top, .top, .top, .top, .top, .top, .top, .top, .top, .top, .top, .top, .top, .top, .top, .top, .top, .top, .top, .top, .top, .top, .top, .top, .top, .top, .top, .top, .top, .top, .top, .top, .top, .top, .top, .top, .top, .top, .top, .top, .top, .top, .top, .top, .top, .top, .top, .top, .top, .top, .top, .top, .top, .top, .top, .top, .top, .top, .top, .top, .top, .top, .top, .top, .top, .top, .top, .top, .top, .top, .top, .top, .top, .top, .top, .top, .top, .top, .top, .top, .top, .top, .top, .top, .top, .top, .top, .top, .top, .top, .top, .top, .top, .top, .top, .top, .top, .top, .top, .top, .top, .top, .top, .top, .top, .top, .top, .top, .top, .top, .top, .top, .top, .top], [(0, ⟨131, 4, true, [[.int .i64 n, .ro 2 (enc e2 aa) fl, .ro 2 (enc e2 oo) fl, .ro 2 (enc e2 rr) fl]], 0⟩)], 1, 0⟩ → W T c14_k0 st (Lift.Fin c14 (.bool true, [])) := by
  have hcv : IntKind.i64.wrap n = n := by rw [wrap_i64 _ (by omega) (by omega)]
  have hm : n ≤ 9223372036854775807 := by omega
  intro k
  induction k with
  | zero =>
    intro i aa oo rr fl st hi la lo lr hs hc
    have h1 : ¬ i < l.length := by omega
    unfold c14_k0
    refine W_round hc ?_
    unfold c14_l0
    repeat (first | refine W_assoc ?_ | (show W _ (.seq (.region _ _) _) _ _; refine W_reg (by simp; with_reducible rfl) ?_) | (show R _ _ _ (_ :: _) _ _ _ _; refine R_op (by simp (maxSteps := 2000000) [h1, V_works30']; with_reducible rfl) ?_) | (show R _ _ _ [] _ _ _ _; refine R_nil (by simp; with_reducible rfl) ?_) | (show W _ (.seq (.cond _ _ _) _) _ _; first | refine W_ct (by first | (simp [h1, V_works30']; done) | fail) ?_ | refine W_cf (by first | (simp [h1, V_works30']; done) | fail) ?_) | refine W_skip ?_ | refine W_bl (c := .seq _ _) ?_ | refine W_bl (c := .region _ _) ?_ | refine W_bl (c := .cond _ _ _) ?_ | refine W_bl (c := .block _ _) ?_ | refine W_rt ?_ | refine W_ex ?_ | refine W_end ?_ | refine W_tail (a := .region _ _) ?_ | refine W_tail (a := .cond _ _ _) ?_ | refine W_tail (a := .ret) ?_ | refine W_tail (a := .exit _) ?_ | refine W_tail (a := .block _ _) ?_ | refine QB_normal ?_ | refine QB_exit ?_ | refine QB_ret ?_ | refine QB_out (by decide) ?_ | refine QL_next ?_ | refine QL_exit ?_ | refine QL_ret ?_ | refine QL_out (by decide) ?_ | (show Fin _ _ .ret _; exact Fin_ret (by first | (simp [c14]; done) | (simp [c14]; with_reducible rfl))) | (show Fin _ _ .normal _; exact Fin_end (by first | (simp [c14]; done) | (simp [c14]; with_reducible rfl))))
  | succ k ih =>
    intro i aa oo rr fl st hi la lo lr hs hc
    have hlt : i < l.length := by omega
    have hwr := wrapS i _ hlt (by omega)
    unfold c14_k0
    refine W_round hc ?_
    unfold c14_l0
    by_cases x0 : (l[i]).1 = 0
    · have v1 := V_ask n hn hm aa oo rr (by omega) (by omega) (l[i]).2.1 (l[i]).2.2
      have la1 : (if asks n aa rr (l[i]).2.1 then aa ++ [((l[i]).2.1, (l[i]).2.2)] else aa).length ≤ i + 1 := by split <;> (try simp only [List.length_append, List.length_cons, List.length_nil]) <;> omega
      have hs1 : ((if asks n aa rr (l[i]).2.1 then aa ++ [((l[i]).2.1, (l[i]).2.2)] else aa).length : Int) + rr.length ≤ n := by
        split
        · rename_i h
          unfold asks at h
          have h2 : ¬ free n aa.length rr.length = 0 := by intro e; rw [e] at h; simp at h
          unfold free at h2
          simp only [List.length_append, List.length_cons, List.length_nil]
          split at h2 <;> omega
        · omega
      generalize (if asks n aa rr (l[i]).2.1 then aa ++ [((l[i]).2.1, (l[i]).2.2)] else aa) = a1 at v1 la1 hs1
      generalize asks n aa rr (l[i]).2.1 = b1 at v1
      have w1 : IntKind.i64.wrap ((a1.length : Int) + rr.length) = a1.length + rr.length := by rw [wrap_i64 _ (by omega) (by omega)]
      have w2 : IntKind.i64.wrap (n - a1.length) = n - a1.length := by rw [wrap_i64 _ (by omega) (by omega)]
      have w3 : IntKind.i64.wrap (n - a1.length - rr.length) = n - a1.length - rr.length := by rw [wrap_i64 _ (by omega) (by omega)]
      have hn2 : ¬ n < (a1.length : Int) + rr.length := by omega
      have hfr : free n a1.length rr.length = n - a1.length - rr.length := by unfold free; rw [if_neg (by omega)]
      have v2 := V_free n hn hm a1 oo rr (by omega) (by omega)
      rw [hfr] at v2
      cases fl
      · repeat (first | refine W_assoc ?_ | (show W _ (.seq (.region _ _) _) _ _; refine W_reg (by simp; with_reducible rfl) ?_) | (show R _ _ _ (_ :: _) _ _ _ _; refine R_op (by simp (maxSteps := 2000000) [hlt, hwr, hcv, x0, v1, w1, w2, w3, hn2, v2]; with_reducible rfl) ?_) | (show R _ _ _ [] _ _ _ _; refine R_nil (by simp; with_reducible rfl) ?_) | (show W _ (.seq (.cond _ _ _) _) _ _; first | refine W_ct (by first | (simp [hlt, hwr, hcv, x0, v1, w1, w2, w3, hn2, v2]; done) | fail) ?_ | refine W_cf (by first | (simp [hlt, hwr, hcv, x0, v1, w1, w2, w3, hn2, v2]; done) | fail) ?_) | refine W_skip ?_ | refine W_bl (c := .seq _ _) ?_ | refine W_bl (c := .region _ _) ?_ | refine W_bl (c := .cond _ _ _) ?_ | refine W_bl (c := .block _ _) ?_ | refine W_rt ?_ | refine W_ex ?_ | refine W_end ?_ | refine W_tail (a := .region _ _) ?_ | refine W_tail (a := .cond _ _ _) ?_ | refine W_tail (a := .ret) ?_ | refine W_tail (a := .exit _) ?_ | refine W_tail (a := .block _ _) ?_ | refine QB_normal ?_ | refine QB_exit ?_ | refine QB_ret ?_ | refine QB_out (by decide) ?_ | refine QL_next ?_ | refine QL_exit ?_ | refine QL_ret ?_ | refine QL_out (by decide) ?_ | (show Fin _ _ .ret _; exact Fin_ret (by first | (simp; done) | (simp; with_reducible rfl))) | (show Fin _ _ .normal _; exact Fin_end (by first | (simp; done) | (simp; with_reducible rfl))))
        exact ih (i + 1) a1 oo rr false _ (by omega) (by omega) (by omega) (by omega) (by omega) (by simp; try rfl)
      · repeat (first | refine W_assoc ?_ | (show W _ (.seq (.region _ _) _) _ _; refine W_reg (by simp; with_reducible rfl) ?_) | (show R _ _ _ (_ :: _) _ _ _ _; refine R_op (by simp (maxSteps := 2000000) [hlt, hwr, hcv, x0, v1, w1, w2, w3, hn2, v2]; with_reducible rfl) ?_) | (show R _ _ _ [] _ _ _ _; refine R_nil (by simp; with_reducible rfl) ?_) | (show W _ (.seq (.cond _ _ _) _) _ _; first | refine W_ct (by first | (simp [hlt, hwr, hcv, x0, v1, w1, w2, w3, hn2, v2]; done) | fail) ?_ | refine W_cf (by first | (simp [hlt, hwr, hcv, x0, v1, w1, w2, w3, hn2, v2]; done) | fail) ?_) | refine W_skip ?_ | refine W_bl (c := .seq _ _) ?_ | refine W_bl (c := .region _ _) ?_ | refine W_bl (c := .cond _ _ _) ?_ | refine W_bl (c := .block _ _) ?_ | refine W_rt ?_ | refine W_ex ?_ | refine W_end ?_ | refine W_tail (a := .region _ _) ?_ | refine W_tail (a := .cond _ _ _) ?_ | refine W_tail (a := .ret) ?_ | refine W_tail (a := .exit _) ?_ | refine W_tail (a := .block _ _) ?_ | refine QB_normal ?_ | refine QB_exit ?_ | refine QB_ret ?_ | refine QB_out (by decide) ?_ | refine QL_next ?_ | refine QL_exit ?_ | refine QL_ret ?_ | refine QL_out (by decide) ?_ | (show Fin _ _ .ret _; exact Fin_ret (by first | (simp; done) | (simp; with_reducible rfl))) | (show Fin _ _ .normal _; exact Fin_end (by first | (simp; done) | (simp; with_reducible rfl))))
        exact ih (i + 1) a1 oo rr false _ (by omega) (by omega) (by omega) (by omega) (by omega) (by simp; try rfl)
    by_cases x1 : (l[i]).1 = 1
    · have v1 := V_none n aa oo rr (by omega) (l[i]).2.1
      have ld := dr_len aa (l[i]).2.1
      generalize dr aa (l[i]).2.1 = a1 at v1 ld
      generalize (aa.any fun x => decide (x.1 = (l[i]).2.1)) = b1 at v1
      have w1 : IntKind.i64.wrap ((a1.length : Int) + rr.length) = a1.length + rr.length := by rw [wrap_i64 _ (by omega) (by omega)]
      have w2 : IntKind.i64.wrap (n - a1.length) = n - a1.length := by rw [wrap_i64 _ (by omega) (by omega)]
      have w3 : IntKind.i64.wrap (n - a1.length - rr.length) = n - a1.length - rr.length := by rw [wrap_i64 _ (by omega) (by omega)]
      have hn2 : ¬ n < (a1.length : Int) + rr.length := by omega
      have hfr : free n a1.length rr.length = n - a1.length - rr.length := by unfold free; rw [if_neg (by omega)]
      have v2 := V_free n hn hm a1 oo rr (by omega) (by omega)
      rw [hfr] at v2
      cases fl
      · repeat (first | refine W_assoc ?_ | (show W _ (.seq (.region _ _) _) _ _; refine W_reg (by simp; with_reducible rfl) ?_) | (show R _ _ _ (_ :: _) _ _ _ _; refine R_op (by simp (maxSteps := 2000000) [hlt, hwr, hcv, x0, x1, v1, w1, w2, w3, hn2, v2]; with_reducible rfl) ?_) | (show R _ _ _ [] _ _ _ _; refine R_nil (by simp; with_reducible rfl) ?_) | (show W _ (.seq (.cond _ _ _) _) _ _; first | refine W_ct (by first | (simp [hlt, hwr, hcv, x0, x1, v1, w1, w2, w3, hn2, v2]; done) | fail) ?_ | refine W_cf (by first | (simp [hlt, hwr, hcv, x0, x1, v1, w1, w2, w3, hn2, v2]; done) | fail) ?_) | refine W_skip ?_ | refine W_bl (c := .seq _ _) ?_ | refine W_bl (c := .region _ _) ?_ | refine W_bl (c := .cond _ _ _) ?_ | refine W_bl (c := .block _ _) ?_ | refine W_rt ?_ | refine W_ex ?_ | refine W_end ?_ | refine W_tail (a := .region _ _) ?_ | refine W_tail (a := .cond _ _ _) ?_ | refine W_tail (a := .ret) ?_ | refine W_tail (a := .exit _) ?_ | refine W_tail (a := .block _ _) ?_ | refine QB_normal ?_ | refine QB_exit ?_ | refine QB_ret ?_ | refine QB_out (by decide) ?_ | refine QL_next ?_ | refine QL_exit ?_ | refine QL_ret ?_ | refine QL_out (by decide) ?_ | (show Fin _ _ .ret _; exact Fin_ret (by first | (simp; done) | (simp; with_reducible rfl))) | (show Fin _ _ .normal _; exact Fin_end (by first | (simp; done) | (simp; with_reducible rfl))))
        exact ih (i + 1) a1 oo rr false _ (by omega) (by omega) (by omega) (by omega) (by omega) (by simp; try rfl)
      · repeat (first | refine W_assoc ?_ | (show W _ (.seq (.region _ _) _) _ _; refine W_reg (by simp; with_reducible rfl) ?_) | (show R _ _ _ (_ :: _) _ _ _ _; refine R_op (by simp (maxSteps := 2000000) [hlt, hwr, hcv, x0, x1, v1, w1, w2, w3, hn2, v2]; with_reducible rfl) ?_) | (show R _ _ _ [] _ _ _ _; refine R_nil (by simp; with_reducible rfl) ?_) | (show W _ (.seq (.cond _ _ _) _) _ _; first | refine W_ct (by first | (simp [hlt, hwr, hcv, x0, x1, v1, w1, w2, w3, hn2, v2]; done) | fail) ?_ | refine W_cf (by first | (simp [hlt, hwr, hcv, x0, x1, v1, w1, w2, w3, hn2, v2]; done) | fail) ?_) | refine W_skip ?_ | refine W_bl (c := .seq _ _) ?_ | refine W_bl (c := .region _ _) ?_ | refine W_bl (c := .cond _ _ _) ?_ | refine W_bl (c := .block _ _) ?_ | refine W_rt ?_ | refine W_ex ?_ | refine W_end ?_ | refine W_tail (a := .region _ _) ?_ | refine W_tail (a := .cond _ _ _) ?_ | refine W_tail (a := .ret) ?_ | refine W_tail (a := .exit _) ?_ | refine W_tail (a := .block _ _) ?_ | refine QB_normal ?_ | refine QB_exit ?_ | refine QB_ret ?_ | refine QB_out (by decide) ?_ | refine QL_next ?_ | refine QL_exit ?_ | refine QL_ret ?_ | refine QL_out (by decide) ?_ | (show Fin _ _ .ret _; exact Fin_ret (by first | (simp; done) | (simp; with_reducible rfl))) | (show Fin _ _ .normal _; exact Fin_end (by first | (simp; done) | (simp; with_reducible rfl))))
        exact ih (i + 1) a1 oo rr false _ (by omega) (by omega) (by omega) (by omega) (by omega) (by simp; try rfl)
    by_cases x2 : (l[i]).1 = 2
    · have v1 := V_give n hn hm aa oo rr (by omega) (by omega) (by omega) (l[i]).2.1 (l[i]).2.2
      have vh := FV_of (F_has aa (by omega) (l[i]).2.1)
      simp only [clo, zipFrom] at vh
      have ld := dr_len aa (l[i]).2.1
      have hlt2 : aa.any (fun x => decide (x.1 = (l[i]).2.1)) = true → (dr aa (l[i]).2.1).length < aa.length := by
        intro h
        have := any_filter (fun x : P2 => decide (x.1 = (l[i]).2.1)) aa
        rw [h] at this
        simpa [dr] using this
      have hg : aa.any (fun x => decide (x.1 = (l[i]).2.1)) = true → gives n aa rr (l[i]).2.1 = true := by
        intro h
        have := hlt2 h
        unfold gives
        have h2 : ¬ free n (dr aa (l[i]).2.1).length rr.length = 0 := by
          unfold free
          rw [if_neg (by omega)]
          omega
        simp [h2]
      have lo1 : (if gives n aa rr (l[i]).2.1 then oo else oo ++ [((l[i]).2.1, (l[i]).2.2)]).length ≤ i + 1 := by split <;> (try simp only [List.length_append, List.length_cons, List.length_nil]) <;> omega
      have lr1 : (if gives n aa rr (l[i]).2.1 then rr ++ [((l[i]).2.1, (l[i]).2.2)] else rr).length ≤ i + 1 := by split <;> (try simp only [List.length_append, List.length_cons, List.length_nil]) <;> omega
      have hs1 : ((dr aa (l[i]).2.1).length : Int) + (if gives n aa rr (l[i]).2.1 then rr ++ [((l[i]).2.1, (l[i]).2.2)] else rr).length ≤ n := by
        split
        · rename_i h
          unfold gives at h
          have h2 : ¬ free n (dr aa (l[i]).2.1).length rr.length = 0 := by intro e; rw [e] at h; simp at h
          unfold free at h2
          simp only [List.length_append, List.length_cons, List.length_nil]
          split at h2 <;> omega
        · omega
      generalize (if gives n aa rr (l[i]).2.1 then oo else oo ++ [((l[i]).2.1, (l[i]).2.2)]) = o1 at v1 lo1
      generalize (if gives n aa rr (l[i]).2.1 then rr ++ [((l[i]).2.1, (l[i]).2.2)] else rr) = r1 at v1 lr1 hs1
      generalize dr aa (l[i]).2.1 = a1 at v1 ld hs1
      generalize gives n aa rr (l[i]).2.1 = b1 at v1 hg
      generalize (aa.any fun x => decide (x.1 = (l[i]).2.1)) = bh at vh hg
      have hb : bh = false ∨ (bh = true ∧ b1 = true) := by
        cases bh with
        | false => exact .inl rfl
        | true => exact .inr ⟨rfl, hg rfl⟩
      rcases hb with rfl | ⟨rfl, rfl⟩
      · have w1 : IntKind.i64.wrap ((a1.length : Int) + r1.length) = a1.length + r1.length := by rw [wrap_i64 _ (by omega) (by omega)]
        have w2 : IntKind.i64.wrap (n - a1.length) = n - a1.length := by rw [wrap_i64 _ (by omega) (by omega)]
        have w3 : IntKind.i64.wrap (n - a1.length - r1.length) = n - a1.length - r1.length := by rw [wrap_i64 _ (by omega) (by omega)]
        have hn2 : ¬ n < (a1.length : Int) + r1.length := by omega
        have hfr : free n a1.length r1.length = n - a1.length - r1.length := by unfold free; rw [if_neg (by omega)]
        have v2 := V_free n hn hm a1 o1 r1 (by omega) (by omega)
        rw [hfr] at v2
        cases fl
        · repeat (first | refine W_assoc ?_ | (show W _ (.seq (.region _ _) _) _ _; refine W_reg (by simp; with_reducible rfl) ?_) | (show R _ _ _ (_ :: _) _ _ _ _; refine R_op (by simp (maxSteps := 2000000) [hlt, hwr, hcv, x0, x1, x2, v1, vh, w1, w2, w3, hn2, v2]; with_reducible rfl) ?_) | (show R _ _ _ [] _ _ _ _; refine R_nil (by simp; with_reducible rfl) ?_) | (show W _ (.seq (.cond _ _ _) _) _ _; first | refine W_ct (by first | (simp [hlt, hwr, hcv, x0, x1, x2, v1, vh, w1, w2, w3, hn2, v2]; done) | fail) ?_ | refine W_cf (by first | (simp [hlt, hwr, hcv, x0, x1, x2, v1, vh, w1, w2, w3, hn2, v2]; done) | fail) ?_) | refine W_skip ?_ | refine W_bl (c := .seq _ _) ?_ | refine W_bl (c := .region _ _) ?_ | refine W_bl (c := .cond _ _ _) ?_ | refine W_bl (c := .block _ _) ?_ | refine W_rt ?_ | refine W_ex ?_ | refine W_end ?_ | refine W_tail (a := .region _ _) ?_ | refine W_tail (a := .cond _ _ _) ?_ | refine W_tail (a := .ret) ?_ | refine W_tail (a := .exit _) ?_ | refine W_tail (a := .block _ _) ?_ | refine QB_normal ?_ | refine QB_exit ?_ | refine QB_ret ?_ | refine QB_out (by decide) ?_ | refine QL_next ?_ | refine QL_exit ?_ | refine QL_ret ?_ | refine QL_out (by decide) ?_ | (show Fin _ _ .ret _; exact Fin_ret (by first | (simp; done) | (simp; with_reducible rfl))) | (show Fin _ _ .normal _; exact Fin_end (by first | (simp; done) | (simp; with_reducible rfl))))
          exact ih (i + 1) a1 o1 r1 false _ (by omega) (by omega) (by omega) (by omega) (by omega) (by simp; try rfl)
        · repeat (first | refine W_assoc ?_ | (show W _ (.seq (.region _ _) _) _ _; refine W_reg (by simp; with_reducible rfl) ?_) | (show R _ _ _ (_ :: _) _ _ _ _; refine R_op (by simp (maxSteps := 2000000) [hlt, hwr, hcv, x0, x1, x2, v1, vh, w1, w2, w3, hn2, v2]; with_reducible rfl) ?_) | (show R _ _ _ [] _ _ _ _; refine R_nil (by simp; with_reducible rfl) ?_) | (show W _ (.seq (.cond _ _ _) _) _ _; first | refine W_ct (by first | (simp [hlt, hwr, hcv, x0, x1, x2, v1, vh, w1, w2, w3, hn2, v2]; done) | fail) ?_ | refine W_cf (by first | (simp [hlt, hwr, hcv, x0, x1, x2, v1, vh, w1, w2, w3, hn2, v2]; done) | fail) ?_) | refine W_skip ?_ | refine W_bl (c := .seq _ _) ?_ | refine W_bl (c := .region _ _) ?_ | refine W_bl (c := .cond _ _ _) ?_ | refine W_bl (c := .block _ _) ?_ | refine W_rt ?_ | refine W_ex ?_ | refine W_end ?_ | refine W_tail (a := .region _ _) ?_ | refine W_tail (a := .cond _ _ _) ?_ | refine W_tail (a := .ret) ?_ | refine W_tail (a := .exit _) ?_ | refine W_tail (a := .block _ _) ?_ | refine QB_normal ?_ | refine QB_exit ?_ | refine QB_ret ?_ | refine QB_out (by decide) ?_ | refine QL_next ?_ | refine QL_exit ?_ | refine QL_ret ?_ | refine QL_out (by decide) ?_ | (show Fin _ _ .ret _; exact Fin_ret (by first | (simp; done) | (simp; with_reducible rfl))) | (show Fin _ _ .normal _; exact Fin_end (by first | (simp; done) | (simp; with_reducible rfl))))
          exact ih (i + 1) a1 o1 r1 false _ (by omega) (by omega) (by omega) (by omega) (by omega) (by simp; try rfl)
      · have w1 : IntKind.i64.wrap ((a1.length : Int) + r1.length) = a1.length + r1.length := by rw [wrap_i64 _ (by omega) (by omega)]
        have w2 : IntKind.i64.wrap (n - a1.length) = n - a1.length := by rw [wrap_i64 _ (by omega) (by omega)]
        have w3 : IntKind.i64.wrap (n - a1.length - r1.length) = n - a1.length - r1.length := by rw [wrap_i64 _ (by omega) (by omega)]
        have hn2 : ¬ n < (a1.length : Int) + r1.length := by omega
        have hfr : free n a1.length r1.length = n - a1.length - r1.length := by unfold free; rw [if_neg (by omega)]
        have v2 := V_free n hn hm a1 o1 r1 (by omega) (by omega)
        rw [hfr] at v2
        cases fl
        · repeat (first | refine W_assoc ?_ | (show W _ (.seq (.region _ _) _) _ _; refine W_reg (by simp; with_reducible rfl) ?_) | (show R _ _ _ (_ :: _) _ _ _ _; refine R_op (by simp (maxSteps := 2000000) [hlt, hwr, hcv, x0, x1, x2, v1, vh, w1, w2, w3, hn2, v2]; with_reducible rfl) ?_) | (show R _ _ _ [] _ _ _ _; refine R_nil (by simp; with_reducible rfl) ?_) | (show W _ (.seq (.cond _ _ _) _) _ _; first | refine W_ct (by first | (simp [hlt, hwr, hcv, x0, x1, x2, v1, vh, w1, w2, w3, hn2, v2]; done) | fail) ?_ | refine W_cf (by first | (simp [hlt, hwr, hcv, x0, x1, x2, v1, vh, w1, w2, w3, hn2, v2]; done) | fail) ?_) | refine W_skip ?_ | refine W_bl (c := .seq _ _) ?_ | refine W_bl (c := .region _ _) ?_ | refine W_bl (c := .cond _ _ _) ?_ | refine W_bl (c := .block _ _) ?_ | refine W_rt ?_ | refine W_ex ?_ | refine W_end ?_ | refine W_tail (a := .region _ _) ?_ | refine W_tail (a := .cond _ _ _) ?_ | refine W_tail (a := .ret) ?_ | refine W_tail (a := .exit _) ?_ | refine W_tail (a := .block _ _) ?_ | refine QB_normal ?_ | refine QB_exit ?_ | refine QB_ret ?_ | refine QB_out (by decide) ?_ | refine QL_next ?_ | refine QL_exit ?_ | refine QL_ret ?_ | refine QL_out (by decide) ?_ | (show Fin _ _ .ret _; exact Fin_ret (by first | (simp; done) | (simp; with_reducible rfl))) | (show Fin _ _ .normal _; exact Fin_end (by first | (simp; done) | (simp; with_reducible rfl))))
          exact ih (i + 1) a1 o1 r1 false _ (by omega) (by omega) (by omega) (by omega) (by omega) (by simp; try rfl)
        · repeat (first | refine W_assoc ?_ | (show W _ (.seq (.region _ _) _) _ _; refine W_reg (by simp; with_reducible rfl) ?_) | (show R _ _ _ (_ :: _) _ _ _ _; refine R_op (by simp (maxSteps := 2000000) [hlt, hwr, hcv, x0, x1, x2, v1, vh, w1, w2, w3, hn2, v2]; with_reducible rfl) ?_) | (show R _ _ _ [] _ _ _ _; refine R_nil (by simp; with_reducible rfl) ?_) | (show W _ (.seq (.cond _ _ _) _) _ _; first | refine W_ct (by first | (simp [hlt, hwr, hcv, x0, x1, x2, v1, vh, w1, w2, w3, hn2, v2]; done) | fail) ?_ | refine W_cf (by first | (simp [hlt, hwr, hcv, x0, x1, x2, v1, vh, w1, w2, w3, hn2, v2]; done) | fail) ?_) | refine W_skip ?_ | refine W_bl (c := .seq _ _) ?_ | refine W_bl (c := .region _ _) ?_ | refine W_bl (c := .cond _ _ _) ?_ | refine W_bl (c := .block _ _) ?_ | refine W_rt ?_ | refine W_ex ?_ | refine W_end ?_ | refine W_tail (a := .region _ _) ?_ | refine W_tail (a := .cond _ _ _) ?_ | refine W_tail (a := .ret) ?_ | refine W_tail (a := .exit _) ?_ | refine W_tail (a := .block _ _) ?_ | refine QB_normal ?_ | refine QB_exit ?_ | refine QB_ret ?_ | refine QB_out (by decide) ?_ | refine QL_next ?_ | refine QL_exit ?_ | refine QL_ret ?_ | refine QL_out (by decide) ?_ | (show Fin _ _ .ret _; exact Fin_ret (by first | (simp; done) | (simp; with_reducible rfl))) | (show Fin _ _ .normal _; exact Fin_end (by first | (simp; done) | (simp; with_reducible rfl))))
          exact ih (i + 1) a1 o1 r1 false _ (by omega) (by omega) (by omega) (by omega) (by omega) (by simp; try rfl)
    by_cases x3 : (l[i]).1 = 3
    · have v1 := V_next n hn hm aa oo rr (by omega) (by omega) (by omega)
      simp only [e2] at v1
      have lo1 : (if nexts n aa oo rr then oo.tail else oo).length ≤ i + 1 := by split <;> (try simp only [List.length_tail]) <;> omega
      have lr1 : (if nexts n aa oo rr then rr ++ [oo.head?.getD (0, 0)] else rr).length ≤ i + 1 := by split <;> (try simp only [List.length_append, List.length_cons, List.length_nil]) <;> omega
      have hs1 : (aa.length : Int) + (if nexts n aa oo rr then rr ++ [oo.head?.getD (0, 0)] else rr).length ≤ n := by
        split
        · rename_i h
          unfold nexts at h
          have h2 : ¬ free n aa.length rr.length = 0 := by intro e; rw [e] at h; simp at h
          unfold free at h2
          simp only [List.length_append, List.length_cons, List.length_nil]
          split at h2 <;> omega
        · omega
      generalize (if nexts n aa oo rr then oo.tail else oo) = o1 at v1 lo1
      generalize (if nexts n aa oo rr then rr ++ [oo.head?.getD (0, 0)] else rr) = r1 at v1 lr1 hs1
      generalize (if nexts n aa oo rr then oo.head?.getD (0, 0) else (0, 0)) = t1 at v1
      generalize nexts n aa oo rr = b1 at v1
      have w1 : IntKind.i64.wrap ((aa.length : Int) + r1.length) = aa.length + r1.length := by rw [wrap_i64 _ (by omega) (by omega)]
      have w2 : IntKind.i64.wrap (n - aa.length) = n - aa.length := by rw [wrap_i64 _ (by omega) (by omega)]
      have w3 : IntKind.i64.wrap (n - aa.length - r1.length) = n - aa.length - r1.length := by rw [wrap_i64 _ (by omega) (by omega)]
      have hn2 : ¬ n < (aa.length : Int) + r1.length := by omega
      have hfr : free n aa.length r1.length = n - aa.length - r1.length := by unfold free; rw [if_neg (by omega)]
      have v2 := V_free n hn hm aa o1 r1 (by omega) (by omega)
      rw [hfr] at v2
      cases fl
      · repeat (first | refine W_assoc ?_ | (show W _ (.seq (.region _ _) _) _ _; refine W_reg (by simp; with_reducible rfl) ?_) | (show R _ _ _ (_ :: _) _ _ _ _; refine R_op (by simp (maxSteps := 2000000) [hlt, hwr, hcv, x0, x1, x2, x3, v1, w1, w2, w3, hn2, v2]; with_reducible rfl) ?_) | (show R _ _ _ [] _ _ _ _; refine R_nil (by simp; with_reducible rfl) ?_) | (show W _ (.seq (.cond _ _ _) _) _ _; first | refine W_ct (by first | (simp [hlt, hwr, hcv, x0, x1, x2, x3, v1, w1, w2, w3, hn2, v2]; done) | fail) ?_ | refine W_cf (by first | (simp [hlt, hwr, hcv, x0, x1, x2, x3, v1, w1, w2, w3, hn2, v2]; done) | fail) ?_) | refine W_skip ?_ | refine W_bl (c := .seq _ _) ?_ | refine W_bl (c := .region _ _) ?_ | refine W_bl (c := .cond _ _ _) ?_ | refine W_bl (c := .block _ _) ?_ | refine W_rt ?_ | refine W_ex ?_ | refine W_end ?_ | refine W_tail (a := .region _ _) ?_ | refine W_tail (a := .cond _ _ _) ?_ | refine W_tail (a := .ret) ?_ | refine W_tail (a := .exit _) ?_ | refine W_tail (a := .block _ _) ?_ | refine QB_normal ?_ | refine QB_exit ?_ | refine QB_ret ?_ | refine QB_out (by decide) ?_ | refine QL_next ?_ | refine QL_exit ?_ | refine QL_ret ?_ | refine QL_out (by decide) ?_ | (show Fin _ _ .ret _; exact Fin_ret (by first | (simp; done) | (simp; with_reducible rfl))) | (show Fin _ _ .normal _; exact Fin_end (by first | (simp; done) | (simp; with_reducible rfl))))
        exact ih (i + 1) aa o1 r1 false _ (by omega) (by omega) (by omega) (by omega) (by omega) (by simp; try rfl)
      · repeat (first | refine W_assoc ?_ | (show W _ (.seq (.region _ _) _) _ _; refine W_reg (by simp; with_reducible rfl) ?_) | (show R _ _ _ (_ :: _) _ _ _ _; refine R_op (by simp (maxSteps := 2000000) [hlt, hwr, hcv, x0, x1, x2, x3, v1, w1, w2, w3, hn2, v2]; with_reducible rfl) ?_) | (show R _ _ _ [] _ _ _ _; refine R_nil (by simp; with_reducible rfl) ?_) | (show W _ (.seq (.cond _ _ _) _) _ _; first | refine W_ct (by first | (simp [hlt, hwr, hcv, x0, x1, x2, x3, v1, w1, w2, w3, hn2, v2]; done) | fail) ?_ | refine W_cf (by first | (simp [hlt, hwr, hcv, x0, x1, x2, x3, v1, w1, w2, w3, hn2, v2]; done) | fail) ?_) | refine W_skip ?_ | refine W_bl (c := .seq _ _) ?_ | refine W_bl (c := .region _ _) ?_ | refine W_bl (c := .cond _ _ _) ?_ | refine W_bl (c := .block _ _) ?_ | refine W_rt ?_ | refine W_ex ?_ | refine W_end ?_ | refine W_tail (a := .region _ _) ?_ | refine W_tail (a := .cond _ _ _) ?_ | refine W_tail (a := .ret) ?_ | refine W_tail (a := .exit _) ?_ | refine W_tail (a := .block _ _) ?_ | refine QB_normal ?_ | refine QB_exit ?_ | refine QB_ret ?_ | refine QB_out (by decide) ?_ | refine QL_next ?_ | refine QL_exit ?_ | refine QL_ret ?_ | refine QL_out (by decide) ?_ | (show Fin _ _ .ret _; exact Fin_ret (by first | (simp; done) | (simp; with_reducible rfl))) | (show Fin _ _ .normal _; exact Fin_end (by first | (simp; done) | (simp; with_reducible rfl))))
        exact ih (i + 1) aa o1 r1 false _ (by omega) (by omega) (by omega) (by omega) (by omega) (by simp; try rfl)
    by_cases x4 : (l[i]).1 = 4
    · have v1 := V_end n aa oo rr (by omega) (l[i]).2.1 (l[i]).2.2
      have le := er_len rr ((l[i]).2.1, (l[i]).2.2)
      generalize er rr ((l[i]).2.1, (l[i]).2.2) = r1 at v1 le
      generalize (rr.any fun x => decide (x = ((l[i]).2.1, (l[i]).2.2))) = b1 at v1
      have w1 : IntKind.i64.wrap ((aa.length : Int) + r1.length) = aa.length + r1.length := by rw [wrap_i64 _ (by omega) (by omega)]
      have w2 : IntKind.i64.wrap (n - aa.length) = n - aa.length := by rw [wrap_i64 _ (by omega) (by omega)]
      have w3 : IntKind.i64.wrap (n - aa.length - r1.length) = n - aa.length - r1.length := by rw [wrap_i64 _ (by omega) (by omega)]
      have hn2 : ¬ n < (aa.length : Int) + r1.length := by omega
      have hfr : free n aa.length r1.length = n - aa.length - r1.length := by unfold free; rw [if_neg (by omega)]
      have v2 := V_free n hn hm aa oo r1 (by omega) (by omega)
      rw [hfr] at v2
      cases fl
      · repeat (first | refine W_assoc ?_ | (show W _ (.seq (.region _ _) _) _ _; refine W_reg (by simp; with_reducible rfl) ?_) | (show R _ _ _ (_ :: _) _ _ _ _; refine R_op (by simp (maxSteps := 2000000) [hlt, hwr, hcv, x0, x1, x2, x3, x4, v1, w1, w2, w3, hn2, v2]; with_reducible rfl) ?_) | (show R _ _ _ [] _ _ _ _; refine R_nil (by simp; with_reducible rfl) ?_) | (show W _ (.seq (.cond _ _ _) _) _ _; first | refine W_ct (by first | (simp [hlt, hwr, hcv, x0, x1, x2, x3, x4, v1, w1, w2, w3, hn2, v2]; done) | fail) ?_ | refine W_cf (by first | (simp [hlt, hwr, hcv, x0, x1, x2, x3, x4, v1, w1, w2, w3, hn2, v2]; done) | fail) ?_) | refine W_skip ?_ | refine W_bl (c := .seq _ _) ?_ | refine W_bl (c := .region _ _) ?_ | refine W_bl (c := .cond _ _ _) ?_ | refine W_bl (c := .block _ _) ?_ | refine W_rt ?_ | refine W_ex ?_ | refine W_end ?_ | refine W_tail (a := .region _ _) ?_ | refine W_tail (a := .cond _ _ _) ?_ | refine W_tail (a := .ret) ?_ | refine W_tail (a := .exit _) ?_ | refine W_tail (a := .block _ _) ?_ | refine QB_normal ?_ | refine QB_exit ?_ | refine QB_ret ?_ | refine QB_out (by decide) ?_ | refine QL_next ?_ | refine QL_exit ?_ | refine QL_ret ?_ | refine QL_out (by decide) ?_ | (show Fin _ _ .ret _; exact Fin_ret (by first | (simp; done) | (simp; with_reducible rfl))) | (show Fin _ _ .normal _; exact Fin_end (by first | (simp; done) | (simp; with_reducible rfl))))
        exact ih (i + 1) aa oo r1 false _ (by omega) (by omega) (by omega) (by omega) (by omega) (by simp; try rfl)
      · repeat (first | refine W_assoc ?_ | (show W _ (.seq (.region _ _) _) _ _; refine W_reg (by simp; with_reducible rfl) ?_) | (show R _ _ _ (_ :: _) _ _ _ _; refine R_op (by simp (maxSteps := 2000000) [hlt, hwr, hcv, x0, x1, x2, x3, x4, v1, w1, w2, w3, hn2, v2]; with_reducible rfl) ?_) | (show R _ _ _ [] _ _ _ _; refine R_nil (by simp; with_reducible rfl) ?_) | (show W _ (.seq (.cond _ _ _) _) _ _; first | refine W_ct (by first | (simp [hlt, hwr, hcv, x0, x1, x2, x3, x4, v1, w1, w2, w3, hn2, v2]; done) | fail) ?_ | refine W_cf (by first | (simp [hlt, hwr, hcv, x0, x1, x2, x3, x4, v1, w1, w2, w3, hn2, v2]; done) | fail) ?_) | refine W_skip ?_ | refine W_bl (c := .seq _ _) ?_ | refine W_bl (c := .region _ _) ?_ | refine W_bl (c := .cond _ _ _) ?_ | refine W_bl (c := .block _ _) ?_ | refine W_rt ?_ | refine W_ex ?_ | refine W_end ?_ | refine W_tail (a := .region _ _) ?_ | refine W_tail (a := .cond _ _ _) ?_ | refine W_tail (a := .ret) ?_ | refine W_tail (a := .exit _) ?_ | refine W_tail (a := .block _ _) ?_ | refine QB_normal ?_ | refine QB_exit ?_ | refine QB_ret ?_ | refine QB_out (by decide) ?_ | refine QL_next ?_ | refine QL_exit ?_ | refine QL_ret ?_ | refine QL_out (by decide) ?_ | (show Fin _ _ .ret _; exact Fin_ret (by first | (simp; done) | (simp; with_reducible rfl))) | (show Fin _ _ .normal _; exact Fin_end (by first | (simp; done) | (simp; with_reducible rfl))))
        exact ih (i + 1) aa oo r1 false _ (by omega) (by omega) (by omega) (by omega) (by omega) (by simp; try rfl)
    · have v1 := V_move n aa oo rr (by omega) (l[i]).2.1 (l[i]).2.2
      have lm : (aa.map (mv (l[i]).2.1 (l[i]).2.2)).length = aa.length := by simp
      generalize aa.map (mv (l[i]).2.1 (l[i]).2.2) = a1 at v1 lm
      have w1 : IntKind.i64.wrap ((a1.length : Int) + rr.length) = a1.length + rr.length := by rw [wrap_i64 _ (by omega) (by omega)]
      have w2 : IntKind.i64.wrap (n - a1.length) = n - a1.length := by rw [wrap_i64 _ (by omega) (by omega)]
      have w3 : IntKind.i64.wrap (n - a1.length - rr.length) = n - a1.length - rr.length := by rw [wrap_i64 _ (by omega) (by omega)]
      have hn2 : ¬ n < (a1.length : Int) + rr.length := by omega
      have hfr : free n a1.length rr.length = n - a1.length - rr.length := by unfold free; rw [if_neg (by omega)]
      have v2 := V_free n hn hm a1 oo rr (by omega) (by omega)
      rw [hfr] at v2
      cases fl
      · repeat (first | refine W_assoc ?_ | (show W _ (.seq (.region _ _) _) _ _; refine W_reg (by simp; with_reducible rfl) ?_) | (show R _ _ _ (_ :: _) _ _ _ _; refine R_op (by simp (maxSteps := 2000000) [hlt, hwr, hcv, x0, x1, x2, x3, x4, v1, w1, w2, w3, hn2, v2]; with_reducible rfl) ?_) | (show R _ _ _ [] _ _ _ _; refine R_nil (by simp; with_reducible rfl) ?_) | (show W _ (.seq (.cond _ _ _) _) _ _; first | refine W_ct (by first | (simp [hlt, hwr, hcv, x0, x1, x2, x3, x4, v1, w1, w2, w3, hn2, v2]; done) | fail) ?_ | refine W_cf (by first | (simp [hlt, hwr, hcv, x0, x1, x2, x3, x4, v1, w1, w2, w3, hn2, v2]; done) | fail) ?_) | refine W_skip ?_ | refine W_bl (c := .seq _ _) ?_ | refine W_bl (c := .region _ _) ?_ | refine W_bl (c := .cond _ _ _) ?_ | refine W_bl (c := .block _ _) ?_ | refine W_rt ?_ | refine W_ex ?_ | refine W_end ?_ | refine W_tail (a := .region _ _) ?_ | refine W_tail (a := .cond _ _ _) ?_ | refine W_tail (a := .ret) ?_ | refine W_tail (a := .exit _) ?_ | refine W_tail (a := .block _ _) ?_ | refine QB_normal ?_ | refine QB_exit ?_ | refine QB_ret ?_ | refine QB_out (by decide) ?_ | refine QL_next ?_ | refine QL_exit ?_ | refine QL_ret ?_ | refine QL_out (by decide) ?_ | (show Fin _ _ .ret _; exact Fin_ret (by first | (simp; done) | (simp; with_reducible rfl))) | (show Fin _ _ .normal _; exact Fin_end (by first | (simp; done) | (simp; with_reducible rfl))))
        exact ih (i + 1) a1 oo rr false _ (by omega) (by omega) (by omega) (by omega) (by omega) (by simp; try rfl)
      · repeat (first | refine W_assoc ?_ | (show W _ (.seq (.region _ _) _) _ _; refine W_reg (by simp; with_reducible rfl) ?_) | (show R _ _ _ (_ :: _) _ _ _ _; refine R_op (by simp (maxSteps := 2000000) [hlt, hwr, hcv, x0, x1, x2, x3, x4, v1, w1, w2, w3, hn2, v2]; with_reducible rfl) ?_) | (show R _ _ _ [] _ _ _ _; refine R_nil (by simp; with_reducible rfl) ?_) | (show W _ (.seq (.cond _ _ _) _) _ _; first | refine W_ct (by first | (simp [hlt, hwr, hcv, x0, x1, x2, x3, x4, v1, w1, w2, w3, hn2, v2]; done) | fail) ?_ | refine W_cf (by first | (simp [hlt, hwr, hcv, x0, x1, x2, x3, x4, v1, w1, w2, w3, hn2, v2]; done) | fail) ?_) | refine W_skip ?_ | refine W_bl (c := .seq _ _) ?_ | refine W_bl (c := .region _ _) ?_ | refine W_bl (c := .cond _ _ _) ?_ | refine W_bl (c := .block _ _) ?_ | refine W_rt ?_ | refine W_ex ?_ | refine W_end ?_ | refine W_tail (a := .region _ _) ?_ | refine W_tail (a := .cond _ _ _) ?_ | refine W_tail (a := .ret) ?_ | refine W_tail (a := .exit _) ?_ | refine W_tail (a := .block _ _) ?_ | refine QB_normal ?_ | refine QB_exit ?_ | refine QB_ret ?_ | refine QB_out (by decide) ?_ | refine QL_next ?_ | refine QL_exit ?_ | refine QL_ret ?_ | refine QL_out (by decide) ?_ | (show Fin _ _ .ret _; exact Fin_ret (by first | (simp; done) | (simp; with_reducible rfl))) | (show Fin _ _ .normal _; exact Fin_end (by first | (simp; done) | (simp; with_reducible rfl))))
        exact ih (i + 1) a1 oo rr false _ (by omega) (by omega) (by omega) (by omega) (by omega) (by simp; try rfl)

theorem keep (n : Int) (h0 : 0 ≤ n) (hn255 : n ≤ 255) (l : List P3) : F T 14 [.int .u8 n, .ro 3 (enc e3 l) false] [] = some (.bool true, []) := by
  refine F_W T14 ?_
  simp only [c14, c14_b, Lift.start]
  have hcv : IntKind.i64.wrap n = n := by rw [wrap_i64 _ (by omega) (by omega)]
  by_cases hl : l.length ≤ 100
  · have h1 : ¬ 100 < l.length := by omega
    have h2 : ¬ (100 : Int) < l.length := by omega
    repeat (first | refine W_assoc ?_ | (show W _ (.seq (.region _ _) _) _ _; refine W_reg (by simp; with_reducible rfl) ?_) | (show R _ _ _ (_ :: _) _ _ _ _; refine R_op (by simp (maxSteps := 2000000) [h1, h2, hcv]; with_reducible rfl) ?_) | (show R _ _ _ [] _ _ _ _; refine R_nil (by simp; with_reducible rfl) ?_) | (show W _ (.seq (.cond _ _ _) _) _ _; first | refine W_ct (by first | (simp [h1, h2, hcv]; done) | fail) ?_ | refine W_cf (by first | (simp [h1, h2, hcv]; done) | fail) ?_) | refine W_skip ?_ | refine W_bl (c := .seq _ _) ?_ | refine W_bl (c := .region _ _) ?_ | refine W_bl (c := .cond _ _ _) ?_ | refine W_bl (c := .block _ _) ?_ | refine W_rt ?_ | refine W_ex ?_ | refine W_end ?_ | refine W_tail (a := .region _ _) ?_ | refine W_tail (a := .cond _ _ _) ?_ | refine W_tail (a := .ret) ?_ | refine W_tail (a := .exit _) ?_ | refine W_tail (a := .block _ _) ?_ | refine QB_normal ?_ | refine QB_exit ?_ | refine QB_ret ?_ | refine QB_out (by decide) ?_ | refine QL_next ?_ | refine QL_exit ?_ | refine QL_ret ?_ | refine QL_out (by decide) ?_ | (show Fin _ _ .ret _; exact Fin_ret (by first | (simp; done) | (simp; with_reducible rfl))) | (show Fin _ _ .normal _; exact Fin_end (by first | (simp; done) | (simp; with_reducible rfl))))
    exact keep_loop n h0 hn255 l hl l.length 0 [] [] [] true _ (by simp) (by simp) (by simp) (by simp) (by simpa using h0) (by simp; try rfl)
  · have h1 : 100 < l.length := by omega
    have h2 : (100 : Int) < l.length := by omega
    repeat (first | refine W_assoc ?_ | (show W _ (.seq (.region _ _) _) _ _; refine W_reg (by simp; with_reducible rfl) ?_) | (show R _ _ _ (_ :: _) _ _ _ _; refine R_op (by simp (maxSteps := 2000000) [h1, h2, V_works30']; with_reducible rfl) ?_) | (show R _ _ _ [] _ _ _ _; refine R_nil (by simp; with_reducible rfl) ?_) | (show W _ (.seq (.cond _ _ _) _) _ _; first | refine W_ct (by first | (simp [h1, h2, V_works30']; done) | fail) ?_ | refine W_cf (by first | (simp [h1, h2, V_works30']; done) | fail) ?_) | refine W_skip ?_ | refine W_bl (c := .seq _ _) ?_ | refine W_bl (c := .region _ _) ?_ | refine W_bl (c := .cond _ _ _) ?_ | refine W_bl (c := .block _ _) ?_ | refine W_rt ?_ | refine W_ex ?_ | refine W_end ?_ | refine W_tail (a := .region _ _) ?_ | refine W_tail (a := .cond _ _ _) ?_ | refine W_tail (a := .ret) ?_ | refine W_tail (a := .exit _) ?_ | refine W_tail (a := .block _ _) ?_ | refine QB_normal ?_ | refine QB_exit ?_ | refine QB_ret ?_ | refine QB_out (by decide) ?_ | refine QL_next ?_ | refine QL_exit ?_ | refine QL_ret ?_ | refine QL_out (by decide) ?_ | (show Fin _ _ .ret _; exact Fin_ret (by first | (simp [c14]; done) | (simp [c14]; with_reducible rfl))) | (show Fin _ _ .normal _; exact Fin_end (by first | (simp [c14]; done) | (simp [c14]; with_reducible rfl))))

end Go.Proofs.Ytnobgooojbppbaa.Slots
