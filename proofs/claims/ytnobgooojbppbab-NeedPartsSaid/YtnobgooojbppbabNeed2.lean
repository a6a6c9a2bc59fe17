/- What tasks need: how deep trees are, the document's functions. -/
import Derived.Test.YtnobgooojbppbabNeed
set_option linter.all false
set_option linter.unusedSimpArgs false
set_option maxRecDepth 100000
set_option maxHeartbeats 4000000
namespace Go.Proofs.Ytnobgooojbppbab.Need
open Go Go.RowKit Go.Proofs.Ytnobgooojbppbab.Lift Go.Proofs.Ytnobgooojbppbab.TND Go.Proofs.Ytnobgooojbppbab.Base Go.Proofs.Ytnobgooojbppbab.NeedPure

/-- Which function tells how deep a tree is. -/
def dfn : Tr → Nat
  | .leaf _ => 138
  | .no _ => 136
  | .two _ _ _ => 134

theorem flat_own {n : Nat} {c : AV} (h : flatD n c = true) : isOwn c = false ∧ unf1 c = c := by
  cases n with
  | zero => simp [flatD] at h
  | succ n => cases c <;> simp_all [flatD, isOwn, unf1]

theorem flat_arg (v : AV) (h : flatD 450 v = true) : argIds 0 v = [] ∧ lentIds v = [] ∧ ∀ N H, lend N H v = v := by
  cases v with
  | agg cs =>
    simp only [flatD, List.all_eq_true] at h
    refine ⟨?_, ?_, fun N H => ?_⟩
    · show (cs.flatMap fun c => if (0 = 0 && isOwn c) = true then [] else ids 504 c) = []
      rw [List.flatMap_eq_nil_iff]
      intro c hc
      rw [(flat_own (h c hc)).1]
      exact flatD_ids 449 504 c (by omega) (h c hc)
    · show (cs.flatMap fun c => if isOwn c = true then ids 504 c else []) = []
      rw [List.flatMap_eq_nil_iff]
      intro c hc
      rw [(flat_own (h c hc)).1]
      rfl
    · show AV.agg (cs.map (lend1 N H)) = .agg cs
      congr 1
      refine (List.map_congr_left fun c hc => ?_).trans (List.map_id _)
      show lend1 N H c = c
      unfold lend1
      rw [(flat_own (h c hc)).1]
      exact (flat_own (h c hc)).2
  | _ =>
    first
    | (simp [flatD] at h; done)
    | (refine ⟨?_, ?_, fun N H => ?_⟩
       · first | (exact flatD_ids 450 504 _ (by omega) h) | rfl
       · rfl
       · rfl)

theorem closure_nil (H : Heap) : ∀ n, closure H n [] = []
  | 0 => rfl
  | n + 1 => by
    simp only [closure, List.flatMap_nil, List.append_nil]
    exact closure_nil H n

/-- Arguments that lead to nothing. -/
theorem callArgs_flat (H : Heap) (al : List AV) (h : ∀ a ∈ al, flatD 450 a = true) : callArgs H 0 al = some (al, [], [], []) := by
  have h1 : al.flatMap (argIds 0) = [] := by
    rw [List.flatMap_eq_nil_iff]; exact fun a ha => (flat_arg a (h a ha)).1
  have h2 : al.flatMap lentIds = [] := by
    rw [List.flatMap_eq_nil_iff]; exact fun a ha => (flat_arg a (h a ha)).2.1
  have hg : grants H 0 al = [] := by
    unfold grants
    rw [if_neg (by decide), h1, closure_nil]; rfl
  have hl : lents H 0 [] al = [] := by
    unfold lents
    rw [if_neg (by decide)]
    simp only [show ((0 : Nat) = 2) = False by simp, if_false]
    rw [h2, closure_nil]; rfl
  have hm : (al.map (lend (others H []) H)).map (AV.ren (pos [])) = al := by
    rw [List.map_map]
    refine (List.map_congr_left fun a ha => ?_).trans (List.map_id _)
    show AV.ren (pos []) (lend (others H []) H a) = a
    rw [(flat_arg a (h a ha)).2.2, flatD_ren 450 a _ (h a ha)]
  unfold callArgs
  simp only [hg, hl, show ((0 : Nat) = 1) = False by simp, show ((0 : Nat) = 2) = False by simp, if_false, hm]
  rfl

theorem flat_int (k : IntKind) (n : Int) : flatD 450 (.int k n) = true := rfl
theorem flat_bool (b : Bool) : flatD 450 (.bool b) = true := rfl

/-- A method's call on what an interface holds. -/
theorem aops_inv {d bar : Bool} {i : Nat} {st : ASt} {tbl : List (Nat × Nat)} {x : Nat} {t g dst : Nat} {v r : AV} {gd : Option (Nat × Bool)} {late : List SLate} {xs : List SOpd} (hgd : guardOf st.σ gd = some true) (hx : ev st.σ (.tmp x) = .ifc t v) (ht : assocN tbl t = some g) (hf : flatD 450 v = true)
    (hxs : ∀ a ∈ evs st.σ xs, flatD 450 a = true) (hF : F T g (v :: evs st.σ xs) [] = some (r, [])) (hr : flatD 450 r = true) : aops (F T) d [⟨some dst, .call (.inv tbl (.tmp x)) 0 xs, gd, bar, late⟩] i st = some (put st (some dst) r) := by
  have hc : callArgs st.H 0 ([v] ++ evs st.σ xs ++ []) = some (v :: evs st.σ xs, [], [], []) := by
    rw [List.append_nil]
    refine callArgs_flat st.H (v :: evs st.σ xs) fun a ha => ?_
    rcases List.mem_cons.1 ha with ha | ha
    · rw [ha]; exact hf
    · exact hxs a ha
  have hcalm : calm (F T) st.σ st.H (st.nxt + 64 * i) (.call (.inv tbl (.tmp x)) 0 xs) = some (r, []) := by
    simp only [calm, target, hx, ht, hc, hF]
    simp [flatD_ren 450 r _ hr]
  simp only [aops, hgd, hcalm]
  simp [zipFrom]

theorem dfn_tbl (t : Tr) : assocN [(104, 134), (109, 136), (138, 138)] (ty t) = some (dfn t) := by cases t <;> rfl

theorem F_deep : ∀ (t : Tr) (m : Nat), m ≤ 199 → deep t ≤ m + 1 → F T (dfn t) [pay m t] [] = some (.int .i64 (deep t), [])
  | .leaf k, m, hm, hd => by
    refine F_W (show T (dfn (.leaf k)) = some c138 from T138) ?_
    simp only [c138, c138_b, Lift.start, pay]
    repeat (first | refine W_assoc ?_ | (show W _ (.seq (.region _ _) _) _ _; refine W_reg (by simp; with_reducible rfl) ?_) | (show R _ _ _ (_ :: _) _ _ _ _; refine R_op (by simp (maxSteps := 2000000); with_reducible rfl) ?_) | (show R _ _ _ [] _ _ _ _; refine R_nil (by simp; with_reducible rfl) ?_) | (show W _ (.seq (.cond _ _ _) _) _ _; first | refine W_ct (by first | (simp; done) | fail) ?_ | refine W_cf (by first | (simp; done) | fail) ?_) | refine W_skip ?_ | refine W_bl (c := .seq _ _) ?_ | refine W_bl (c := .region _ _) ?_ | refine W_bl (c := .cond _ _ _) ?_ | refine W_bl (c := .block _ _) ?_ | refine W_rt ?_ | refine W_ex ?_ | refine W_end ?_ | refine W_tail (a := .region _ _) ?_ | refine W_tail (a := .cond _ _ _) ?_ | refine W_tail (a := .ret) ?_ | refine W_tail (a := .exit _) ?_ | refine W_tail (a := .block _ _) ?_ | refine QB_normal ?_ | refine QB_exit ?_ | refine QB_ret ?_ | refine QB_out (by decide) ?_ | refine QL_next ?_ | refine QL_exit ?_ | refine QL_ret ?_ | refine QL_out (by decide) ?_ | (show Fin _ _ .ret _; exact Fin_ret (by first | (simp [c138, deep]; done) | (simp [c138, deep]; with_reducible rfl))) | (show Fin _ _ .normal _; exact Fin_end (by first | (simp [c138, deep]; done) | (simp [c138, deep]; with_reducible rfl))))
  | .no t, m, hm, hd => by
    simp only [deep] at hd
    have hp : 0 < deep t := by cases t <;> simp [deep]
    obtain ⟨m, rfl⟩ : ∃ q, m = q + 1 := ⟨m - 1, by omega⟩
    have ih := F_deep t m (by omega) (by omega)
    have w1 : IntKind.i64.wrap ((deep t : Int) + 1) = deep t + 1 := by rw [wrap_i64 _ (by omega) (by omega)]
    refine F_W (show T (dfn (.no t)) = some c136 from T136) ?_
    simp only [c136, c136_b, Lift.start, pay, encN_succ]
    repeat (first | refine W_assoc ?_ | (show W _ (.seq (.region _ _) _) _ _; refine W_reg (by simp; with_reducible rfl) ?_) | (show R _ _ _ (_ :: _) _ _ _ _; refine R_op (by simp (maxSteps := 2000000); with_reducible rfl) ?_) | (show R _ _ _ [] _ _ _ _; refine R_nil (by simp; with_reducible rfl) ?_) | (show W _ (.seq (.cond _ _ _) _) _ _; first | refine W_ct (by first | (simp; done) | fail) ?_ | refine W_cf (by first | (simp; done) | fail) ?_) | refine W_skip ?_ | refine W_bl (c := .seq _ _) ?_ | refine W_bl (c := .region _ _) ?_ | refine W_bl (c := .cond _ _ _) ?_ | refine W_bl (c := .block _ _) ?_ | refine W_rt ?_ | refine W_ex ?_ | refine W_end ?_ | refine W_tail (a := .region _ _) ?_ | refine W_tail (a := .cond _ _ _) ?_ | refine W_tail (a := .ret) ?_ | refine W_tail (a := .exit _) ?_ | refine W_tail (a := .block _ _) ?_ | refine QB_normal ?_ | refine QB_exit ?_ | refine QB_ret ?_ | refine QB_out (by decide) ?_ | refine QL_next ?_ | refine QL_exit ?_ | refine QL_ret ?_ | refine QL_out (by decide) ?_ | (show Fin _ _ .ret _; exact Fin_ret (by first | (simp [c136, deep]; done) | (simp [c136, deep]; with_reducible rfl))) | (show Fin _ _ .normal _; exact Fin_end (by first | (simp [c136, deep]; done) | (simp [c136, deep]; with_reducible rfl))))
    refine R_op (aops_inv rfl rfl (dfn_tbl t) (flat200p m (by omega) t) (by simp [evs]) ih (flat_int _ _)) ?_
    simp only [put]
    repeat (first | refine W_assoc ?_ | (show W _ (.seq (.region _ _) _) _ _; refine W_reg (by simp; with_reducible rfl) ?_) | (show R _ _ _ (_ :: _) _ _ _ _; refine R_op (by simp (maxSteps := 2000000) [w1]; with_reducible rfl) ?_) | (show R _ _ _ [] _ _ _ _; refine R_nil (by simp; with_reducible rfl) ?_) | (show W _ (.seq (.cond _ _ _) _) _ _; first | refine W_ct (by first | (simp [w1]; done) | fail) ?_ | refine W_cf (by first | (simp [w1]; done) | fail) ?_) | refine W_skip ?_ | refine W_bl (c := .seq _ _) ?_ | refine W_bl (c := .region _ _) ?_ | refine W_bl (c := .cond _ _ _) ?_ | refine W_bl (c := .block _ _) ?_ | refine W_rt ?_ | refine W_ex ?_ | refine W_end ?_ | refine W_tail (a := .region _ _) ?_ | refine W_tail (a := .cond _ _ _) ?_ | refine W_tail (a := .ret) ?_ | refine W_tail (a := .exit _) ?_ | refine W_tail (a := .block _ _) ?_ | refine QB_normal ?_ | refine QB_exit ?_ | refine QB_ret ?_ | refine QB_out (by decide) ?_ | refine QL_next ?_ | refine QL_exit ?_ | refine QL_ret ?_ | refine QL_out (by decide) ?_ | (show Fin _ _ .ret _; exact Fin_ret (by first | (simp [c136, deep]; done) | (simp [c136, deep]; with_reducible rfl))) | (show Fin _ _ .normal _; exact Fin_end (by first | (simp [c136, deep]; done) | (simp [c136, deep]; with_reducible rfl))))
  | .two b l r, m, hm, hd => by
    simp only [deep] at hd
    have hp : 0 < deep l := by cases l <;> simp [deep]
    obtain ⟨m, rfl⟩ : ∃ q, m = q + 1 := ⟨m - 1, by omega⟩
    have ih1 := F_deep l m (by omega) (by omega)
    have ih2 := F_deep r m (by omega) (by omega)
    have w1 : IntKind.i64.wrap (((max (deep l) (deep r) : Nat) : Int) + 1) = (max (deep l) (deep r) : Nat) + 1 := by rw [wrap_i64 _ (by omega) (by omega)]
    refine F_W (show T (dfn (.two b l r)) = some c134 from T134) ?_
    simp only [c134, c134_b, Lift.start, pay, encN_succ]
    repeat (first | refine W_assoc ?_ | (show W _ (.seq (.region _ _) _) _ _; refine W_reg (by simp; with_reducible rfl) ?_) | (show R _ _ _ (_ :: _) _ _ _ _; refine R_op (by simp (maxSteps := 2000000); with_reducible rfl) ?_) | (show R _ _ _ [] _ _ _ _; refine R_nil (by simp; with_reducible rfl) ?_) | (show W _ (.seq (.cond _ _ _) _) _ _; first | refine W_ct (by first | (simp; done) | fail) ?_ | refine W_cf (by first | (simp; done) | fail) ?_) | refine W_skip ?_ | refine W_bl (c := .seq _ _) ?_ | refine W_bl (c := .region _ _) ?_ | refine W_bl (c := .cond _ _ _) ?_ | refine W_bl (c := .block _ _) ?_ | refine W_rt ?_ | refine W_ex ?_ | refine W_end ?_ | refine W_tail (a := .region _ _) ?_ | refine W_tail (a := .cond _ _ _) ?_ | refine W_tail (a := .ret) ?_ | refine W_tail (a := .exit _) ?_ | refine W_tail (a := .block _ _) ?_ | refine QB_normal ?_ | refine QB_exit ?_ | refine QB_ret ?_ | refine QB_out (by decide) ?_ | refine QL_next ?_ | refine QL_exit ?_ | refine QL_ret ?_ | refine QL_out (by decide) ?_ | (show Fin _ _ .ret _; exact Fin_ret (by first | (simp [c134, deep]; done) | (simp [c134, deep]; with_reducible rfl))) | (show Fin _ _ .normal _; exact Fin_end (by first | (simp [c134, deep]; done) | (simp [c134, deep]; with_reducible rfl))))
    refine R_op (aops_inv rfl rfl (dfn_tbl l) (flat200p m (by omega) l) (by simp [evs]) ih1 (flat_int _ _)) ?_
    simp only [put]
    repeat (first | refine W_assoc ?_ | (show W _ (.seq (.region _ _) _) _ _; refine W_reg (by simp; with_reducible rfl) ?_) | (show R _ _ _ (_ :: _) _ _ _ _; refine R_op (by simp (maxSteps := 2000000); with_reducible rfl) ?_) | (show R _ _ _ [] _ _ _ _; refine R_nil (by simp; with_reducible rfl) ?_) | (show W _ (.seq (.cond _ _ _) _) _ _; first | refine W_ct (by first | (simp; done) | fail) ?_ | refine W_cf (by first | (simp; done) | fail) ?_) | refine W_skip ?_ | refine W_bl (c := .seq _ _) ?_ | refine W_bl (c := .region _ _) ?_ | refine W_bl (c := .cond _ _ _) ?_ | refine W_bl (c := .block _ _) ?_ | refine W_rt ?_ | refine W_ex ?_ | refine W_end ?_ | refine W_tail (a := .region _ _) ?_ | refine W_tail (a := .cond _ _ _) ?_ | refine W_tail (a := .ret) ?_ | refine W_tail (a := .exit _) ?_ | refine W_tail (a := .block _ _) ?_ | refine QB_normal ?_ | refine QB_exit ?_ | refine QB_ret ?_ | refine QB_out (by decide) ?_ | refine QL_next ?_ | refine QL_exit ?_ | refine QL_ret ?_ | refine QL_out (by decide) ?_ | (show Fin _ _ .ret _; exact Fin_ret (by first | (simp [c134, deep]; done) | (simp [c134, deep]; with_reducible rfl))) | (show Fin _ _ .normal _; exact Fin_end (by first | (simp [c134, deep]; done) | (simp [c134, deep]; with_reducible rfl))))
    refine R_op (aops_inv rfl rfl (dfn_tbl r) (flat200p m (by omega) r) (by simp [evs]) ih2 (flat_int _ _)) ?_
    simp only [put]
    by_cases hlr : deep l < deep r
    · have hm : max (deep l) (deep r) = deep r := by omega
      have hi : (deep l : Int) < deep r := by omega
      rw [hm] at w1
      repeat (first | refine W_assoc ?_ | (show W _ (.seq (.region _ _) _) _ _; refine W_reg (by simp; with_reducible rfl) ?_) | (show R _ _ _ (_ :: _) _ _ _ _; refine R_op (by simp (maxSteps := 2000000) [w1, hi, hlr]; with_reducible rfl) ?_) | (show R _ _ _ [] _ _ _ _; refine R_nil (by simp; with_reducible rfl) ?_) | (show W _ (.seq (.cond _ _ _) _) _ _; first | refine W_ct (by first | (simp [w1, hi, hlr]; done) | fail) ?_ | refine W_cf (by first | (simp [w1, hi, hlr]; done) | fail) ?_) | refine W_skip ?_ | refine W_bl (c := .seq _ _) ?_ | refine W_bl (c := .region _ _) ?_ | refine W_bl (c := .cond _ _ _) ?_ | refine W_bl (c := .block _ _) ?_ | refine W_rt ?_ | refine W_ex ?_ | refine W_end ?_ | refine W_tail (a := .region _ _) ?_ | refine W_tail (a := .cond _ _ _) ?_ | refine W_tail (a := .ret) ?_ | refine W_tail (a := .exit _) ?_ | refine W_tail (a := .block _ _) ?_ | refine QB_normal ?_ | refine QB_exit ?_ | refine QB_ret ?_ | refine QB_out (by decide) ?_ | refine QL_next ?_ | refine QL_exit ?_ | refine QL_ret ?_ | refine QL_out (by decide) ?_ | (show Fin _ _ .ret _; exact Fin_ret (by first | (simp [c134, deep, hm]; done) | (simp [c134, deep, hm]; with_reducible rfl))) | (show Fin _ _ .normal _; exact Fin_end (by first | (simp [c134, deep, hm]; done) | (simp [c134, deep, hm]; with_reducible rfl))))
    · have hm : max (deep l) (deep r) = deep l := by omega
      have hi : ¬ (deep l : Int) < deep r := by omega
      rw [hm] at w1
      repeat (first | refine W_assoc ?_ | (show W _ (.seq (.region _ _) _) _ _; refine W_reg (by simp; with_reducible rfl) ?_) | (show R _ _ _ (_ :: _) _ _ _ _; refine R_op (by simp (maxSteps := 2000000) [w1, hi, hlr]; with_reducible rfl) ?_) | (show R _ _ _ [] _ _ _ _; refine R_nil (by simp; with_reducible rfl) ?_) | (show W _ (.seq (.cond _ _ _) _) _ _; first | refine W_ct (by first | (simp [w1, hi, hlr]; done) | fail) ?_ | refine W_cf (by first | (simp [w1, hi, hlr]; done) | fail) ?_) | refine W_skip ?_ | refine W_bl (c := .seq _ _) ?_ | refine W_bl (c := .region _ _) ?_ | refine W_bl (c := .cond _ _ _) ?_ | refine W_bl (c := .block _ _) ?_ | refine W_rt ?_ | refine W_ex ?_ | refine W_end ?_ | refine W_tail (a := .region _ _) ?_ | refine W_tail (a := .cond _ _ _) ?_ | refine W_tail (a := .ret) ?_ | refine W_tail (a := .exit _) ?_ | refine W_tail (a := .block _ _) ?_ | refine QB_normal ?_ | refine QB_exit ?_ | refine QB_ret ?_ | refine QB_out (by decide) ?_ | refine QL_next ?_ | refine QL_exit ?_ | refine QL_ret ?_ | refine QL_out (by decide) ?_ | (show Fin _ _ .ret _; exact Fin_ret (by first | (simp [c134, deep, hm]; done) | (simp [c134, deep, hm]; with_reducible rfl))) | (show Fin _ _ .normal _; exact Fin_end (by first | (simp [c134, deep, hm]; done) | (simp [c134, deep, hm]; with_reducible rfl))))

end Go.Proofs.Ytnobgooojbppbab.Need
