/- What tasks need: the program's trees. -/
import Derived.Test.YtnobgooojbppbabTND
import Derived.Test.YtnobgooojbppbabBase
import Derived.Test.YtnobgooojbppbabDeep
import Derived.Test.YtnobgooojbppbabNeedPure
set_option linter.all false
set_option linter.unusedSimpArgs false
set_option maxRecDepth 100000
set_option maxHeartbeats 4000000
namespace Go.Proofs.Ytnobgooojbppbab.Need
open Go Go.RowKit Go.Proofs.Ytnobgooojbppbab.Lift Go.Proofs.Ytnobgooojbppbab.TND Go.Proofs.Ytnobgooojbppbab.Base Go.Proofs.Ytnobgooojbppbab.NeedPure

/-- What an interface holds of a tree: its type, its value. -/
def ty : Tr → Nat
  | .leaf _ => 138
  | .no _ => 109
  | .two _ _ _ => 104

mutual
def encN : Nat → Tr → AV
  | 0, _ => .nilI
  | n + 1, t => .ifc (ty t) (pay n t)
def pay : Nat → Tr → AV
  | _, .leaf k => .agg [.int .i64 k.1, .int .i64 k.2]
  | n, .no t => .agg [encN n t]
  | n, .two b l r => .agg [.bool b, encN n l, encN n r]
end

theorem encN_succ (n : Nat) (t : Tr) : encN (n + 1) t = .ifc (ty t) (pay n t) := by rw [encN]

theorem flat_encN : ∀ (n : Nat) (t : Tr), flatD (2 * n + 1) (encN n t) = true ∧ flatD (2 * n + 2) (pay n t) = true
  | 0, t => by
    refine ⟨by rw [encN]; rfl, ?_⟩
    cases t <;> simp [pay, flatD, encN]
  | n + 1, t => by
    have h1 := (flat_encN n t).2
    have he : ∀ u, flatD (2 * n + 3) (encN (n + 1) u) = true := fun u => by
      rw [encN_succ]
      simp only [flatD]
      exact (flat_encN n u).2
    refine ⟨he t, ?_⟩
    have h3 : 2 * (n + 1) + 2 = (2 * n + 3) + 1 := by omega
    rw [h3]
    cases t <;> simp [pay, flatD, he]

theorem flat_up : ∀ (n m : Nat) (c : AV), n ≤ m → flatD n c = true → flatD m c = true
  | 0, _, _, _, h => by simp [flatD] at h
  | n + 1, 0, _, h, _ => by omega
  | n + 1, m + 1, c, hm, h => by
    cases c <;> simp only [flatD] at h ⊢ <;> first | (cases h; done) | skip
    case agg cs =>
      rw [List.all_eq_true] at h ⊢
      exact fun c hc => flat_up n m c (by omega) (h c hc)
    case ifc t v => exact flat_up n m v (by omega) h

theorem flat200 (m : Nat) (hm : m ≤ 200) (t : Tr) : flatD 450 (encN m t) = true := flat_up _ _ _ (by omega) (flat_encN m t).1
theorem flat200p (m : Nat) (hm : m ≤ 200) (t : Tr) : flatD 450 (pay m t) = true := flat_up _ _ _ (by omega) (flat_encN m t).2

theorem idsN (m : Nat) (hm : m ≤ 200) (t : Tr) : ids 504 (encN m t) = [] := flatD_ids _ _ _ (by omega) (flat200 m hm t)
theorem ids3N (m : Nat) (hm : m ≤ 200) (t : Tr) : ids 503 (encN m t) = [] := flatD_ids _ _ _ (by omega) (flat200 m hm t)
theorem ids2N (m : Nat) (hm : m ≤ 200) (t : Tr) : ids 502 (encN m t) = [] := flatD_ids _ _ _ (by omega) (flat200 m hm t)
theorem ids1N (m : Nat) (hm : m ≤ 200) (t : Tr) : ids 501 (encN m t) = [] := flatD_ids _ _ _ (by omega) (flat200 m hm t)
theorem renN (m : Nat) (hm : m ≤ 200) (t : Tr) (f) : (encN m t).ren f = encN m t := flatD_ren 450 _ _ (flat200 m hm t)
theorem cloN (m : Nat) (hm : m ≤ 200) (t : Tr) (G H) : clo G 504 H (encN m t) = encN m t := flatD_clo 450 _ _ _ _ (by omega) (flat200 m hm t)
theorem clo3N (m : Nat) (hm : m ≤ 200) (t : Tr) (G H) : clo G 503 H (encN m t) = encN m t := flatD_clo 450 _ _ _ _ (by omega) (flat200 m hm t)
theorem clo2N (m : Nat) (hm : m ≤ 200) (t : Tr) (G H) : clo G 502 H (encN m t) = encN m t := flatD_clo 450 _ _ _ _ (by omega) (flat200 m hm t)
theorem roN (m : Nat) (hm : m ≤ 200) (t : Tr) : hasRO 504 (encN m t) = false := flatD_ro 450 _ _ (by omega) (flat200 m hm t)
theorem ro3N (m : Nat) (hm : m ≤ 200) (t : Tr) : hasRO 503 (encN m t) = false := flatD_ro 450 _ _ (by omega) (flat200 m hm t)
theorem ro2N (m : Nat) (hm : m ≤ 200) (t : Tr) : hasRO 502 (encN m t) = false := flatD_ro 450 _ _ (by omega) (flat200 m hm t)

/-- A tree that is not too deep is the same at any greater number of levels. -/
theorem encN_deep : ∀ (t : Tr) (n m : Nat), deep t ≤ n → deep t ≤ m → encN n t = encN m t
  | .leaf k, n, m, h1, h2 => by
    simp [deep] at h1 h2
    obtain ⟨n, rfl⟩ : ∃ q, n = q + 1 := ⟨n - 1, by omega⟩
    obtain ⟨m, rfl⟩ : ∃ q, m = q + 1 := ⟨m - 1, by omega⟩
    simp [encN_succ, pay]
  | .no t, n, m, h1, h2 => by
    simp [deep] at h1 h2
    obtain ⟨n, rfl⟩ : ∃ q, n = q + 1 := ⟨n - 1, by omega⟩
    obtain ⟨m, rfl⟩ : ∃ q, m = q + 1 := ⟨m - 1, by omega⟩
    simp [encN_succ, pay, ty, encN_deep t n m (by omega) (by omega)]
  | .two b l r, n, m, h1, h2 => by
    simp [deep] at h1 h2
    obtain ⟨n, rfl⟩ : ∃ q, n = q + 1 := ⟨n - 1, by omega⟩
    obtain ⟨m, rfl⟩ : ∃ q, m = q + 1 := ⟨m - 1, by omega⟩
    simp [encN_succ, pay, ty, encN_deep l n m (by omega) (by omega), encN_deep r n m (by omega) (by omega)]

@[simp] theorem wrap_0 : IntKind.i64.wrap 0 = 0 := by decide
@[simp] theorem wrap_1 : IntKind.i64.wrap 1 = 1 := by decide

@[simp] def eT (t : Tr) : List AV := [.ifc (ty t) (pay 199 t)]
instance : DPlain eT := ⟨fun t => by have := flat200 200 (by omega) t; rw [encN_succ] at this; simpa using this⟩
@[simp] theorem row_T (t : Tr) : [[AV.ifc (ty t) (pay 199 t)]] = enc eT [t] := rfl
@[simp] theorem idsP4 (t : Tr) : ids 504 (pay 199 t) = [] := flatD_ids 450 _ _ (by omega) (flat200p 199 (by omega) t)
@[simp] theorem idsP3 (t : Tr) : ids 503 (pay 199 t) = [] := flatD_ids 450 _ _ (by omega) (flat200p 199 (by omega) t)
@[simp] theorem idsP2 (t : Tr) : ids 502 (pay 199 t) = [] := flatD_ids 450 _ _ (by omega) (flat200p 199 (by omega) t)
@[simp] theorem idsP1 (t : Tr) : ids 501 (pay 199 t) = [] := flatD_ids 450 _ _ (by omega) (flat200p 199 (by omega) t)
@[simp] theorem idsP0 (t : Tr) : ids 500 (pay 199 t) = [] := flatD_ids 450 _ _ (by omega) (flat200p 199 (by omega) t)
@[simp] theorem roP4 (t : Tr) : hasRO 504 (pay 199 t) = false := flatD_ro 450 _ _ (by omega) (flat200p 199 (by omega) t)
@[simp] theorem roP3 (t : Tr) : hasRO 503 (pay 199 t) = false := flatD_ro 450 _ _ (by omega) (flat200p 199 (by omega) t)
@[simp] theorem roP2 (t : Tr) : hasRO 502 (pay 199 t) = false := flatD_ro 450 _ _ (by omega) (flat200p 199 (by omega) t)
@[simp] theorem roP1 (t : Tr) : hasRO 501 (pay 199 t) = false := flatD_ro 450 _ _ (by omega) (flat200p 199 (by omega) t)
@[simp] theorem renP (t : Tr) (f) : (pay 199 t).ren f = pay 199 t := flatD_ren 450 _ _ (flat200p 199 (by omega) t)
@[simp] theorem cloP4 (t : Tr) (G H) : clo G 504 H (pay 199 t) = pay 199 t := flatD_clo 450 _ _ _ _ (by omega) (flat200p 199 (by omega) t)
@[simp] theorem cloP3 (t : Tr) (G H) : clo G 503 H (pay 199 t) = pay 199 t := flatD_clo 450 _ _ _ _ (by omega) (flat200p 199 (by omega) t)
@[simp] theorem cloP2 (t : Tr) (G H) : clo G 502 H (pay 199 t) = pay 199 t := flatD_clo 450 _ _ _ _ (by omega) (flat200p 199 (by omega) t)
@[simp] theorem cloP1 (t : Tr) (G H) : clo G 501 H (pay 199 t) = pay 199 t := flatD_clo 450 _ _ _ _ (by omega) (flat200p 199 (by omega) t)
theorem fold_leaf (k : P2) : AV.ifc 138 (.agg [.int .i64 k.1, .int .i64 k.2]) = .ifc (ty (.leaf k)) (pay 199 (.leaf k)) := by simp [pay, ty]
theorem fold_no (t : Tr) (h : deep t ≤ 199) : AV.ifc 109 (.agg [.ifc (ty t) (pay 199 t)]) = .ifc (ty (.no t)) (pay 199 (.no t)) := by
  rw [show AV.ifc (ty t) (pay 199 t) = encN 200 t from (encN_succ 199 t).symm, encN_deep t 200 199 (by omega) h]; simp [pay, ty]
theorem fold_two (b : Bool) (l r : Tr) (h : deep l ≤ 199) (h2 : deep r ≤ 199) : AV.ifc 104 (.agg [.bool b, .ifc (ty l) (pay 199 l), .ifc (ty r) (pay 199 r)]) = .ifc (ty (.two b l r)) (pay 199 (.two b l r)) := by
  rw [show AV.ifc (ty l) (pay 199 l) = encN 200 l from (encN_succ 199 l).symm, show AV.ifc (ty r) (pay 199 r) = encN 200 r from (encN_succ 199 r).symm, encN_deep l 200 199 (by omega) h, encN_deep r 200 199 (by omega) h2]; simp [pay, ty]

theorem V_parts (op : Int) : FV (F T) 95 [.int .i64 op] = some (.int .i64 (parts op)) := by
  by_cases h1 : op = 3
  · subst h1
    refine FV_W T95 (r := ?r1) ?h1 ?v1
    case h1 =>
      simp only [c95, c95_b, Lift.start]
      repeat (first | refine W_assoc ?_ | (show W _ (.seq (.region _ _) _) _ _; refine W_reg (by simp; with_reducible rfl) ?_) | (show R _ _ _ (_ :: _) _ _ _ _; refine R_op (by simp (maxSteps := 2000000); with_reducible rfl) ?_) | (show R _ _ _ [] _ _ _ _; refine R_nil (by simp; with_reducible rfl) ?_) | (show W _ (.seq (.cond _ _ _) _) _ _; first | refine W_ct (by first | (simp; done) | fail) ?_ | refine W_cf (by first | (simp; done) | fail) ?_) | refine W_skip ?_ | refine W_bl (c := .seq _ _) ?_ | refine W_bl (c := .region _ _) ?_ | refine W_bl (c := .cond _ _ _) ?_ | refine W_bl (c := .block _ _) ?_ | refine W_rt ?_ | refine W_ex ?_ | refine W_end ?_ | refine W_tail (a := .region _ _) ?_ | refine W_tail (a := .cond _ _ _) ?_ | refine W_tail (a := .ret) ?_ | refine W_tail (a := .exit _) ?_ | refine W_tail (a := .block _ _) ?_ | refine QB_normal ?_ | refine QB_exit ?_ | refine QB_ret ?_ | refine QB_out (by decide) ?_ | refine QL_next ?_ | refine QL_exit ?_ | refine QL_ret ?_ | refine QL_out (by decide) ?_ | (show Fin _ _ .ret _; exact Fin_ret (by first | (simp [c95]; done) | (simp [c95]; with_reducible rfl))) | (show Fin _ _ .normal _; exact Fin_end (by first | (simp [c95]; done) | (simp [c95]; with_reducible rfl))))
    case v1 => simp [parts]
  · by_cases h2 : op = 4
    · subst h2
      refine FV_W T95 (r := ?r2) ?h2 ?v2
      case h2 =>
        simp only [c95, c95_b, Lift.start]
        repeat (first | refine W_assoc ?_ | (show W _ (.seq (.region _ _) _) _ _; refine W_reg (by simp; with_reducible rfl) ?_) | (show R _ _ _ (_ :: _) _ _ _ _; refine R_op (by simp (maxSteps := 2000000); with_reducible rfl) ?_) | (show R _ _ _ [] _ _ _ _; refine R_nil (by simp; with_reducible rfl) ?_) | (show W _ (.seq (.cond _ _ _) _) _ _; first | refine W_ct (by first | (simp; done) | fail) ?_ | refine W_cf (by first | (simp; done) | fail) ?_) | refine W_skip ?_ | refine W_bl (c := .seq _ _) ?_ | refine W_bl (c := .region _ _) ?_ | refine W_bl (c := .cond _ _ _) ?_ | refine W_bl (c := .block _ _) ?_ | refine W_rt ?_ | refine W_ex ?_ | refine W_end ?_ | refine W_tail (a := .region _ _) ?_ | refine W_tail (a := .cond _ _ _) ?_ | refine W_tail (a := .ret) ?_ | refine W_tail (a := .exit _) ?_ | refine W_tail (a := .block _ _) ?_ | refine QB_normal ?_ | refine QB_exit ?_ | refine QB_ret ?_ | refine QB_out (by decide) ?_ | refine QL_next ?_ | refine QL_exit ?_ | refine QL_ret ?_ | refine QL_out (by decide) ?_ | (show Fin _ _ .ret _; exact Fin_ret (by first | (simp [c95]; done) | (simp [c95]; with_reducible rfl))) | (show Fin _ _ .normal _; exact Fin_end (by first | (simp [c95]; done) | (simp [c95]; with_reducible rfl))))
      case v2 => simp [parts]
    · by_cases h3 : op = 5
      · subst h3
        refine FV_W T95 (r := ?r3) ?h3 ?v3
        case h3 =>
          simp only [c95, c95_b, Lift.start]
          repeat (first | refine W_assoc ?_ | (show W _ (.seq (.region _ _) _) _ _; refine W_reg (by simp; with_reducible rfl) ?_) | (show R _ _ _ (_ :: _) _ _ _ _; refine R_op (by simp (maxSteps := 2000000); with_reducible rfl) ?_) | (show R _ _ _ [] _ _ _ _; refine R_nil (by simp; with_reducible rfl) ?_) | (show W _ (.seq (.cond _ _ _) _) _ _; first | refine W_ct (by first | (simp; done) | fail) ?_ | refine W_cf (by first | (simp; done) | fail) ?_) | refine W_skip ?_ | refine W_bl (c := .seq _ _) ?_ | refine W_bl (c := .region _ _) ?_ | refine W_bl (c := .cond _ _ _) ?_ | refine W_bl (c := .block _ _) ?_ | refine W_rt ?_ | refine W_ex ?_ | refine W_end ?_ | refine W_tail (a := .region _ _) ?_ | refine W_tail (a := .cond _ _ _) ?_ | refine W_tail (a := .ret) ?_ | refine W_tail (a := .exit _) ?_ | refine W_tail (a := .block _ _) ?_ | refine QB_normal ?_ | refine QB_exit ?_ | refine QB_ret ?_ | refine QB_out (by decide) ?_ | refine QL_next ?_ | refine QL_exit ?_ | refine QL_ret ?_ | refine QL_out (by decide) ?_ | (show Fin _ _ .ret _; exact Fin_ret (by first | (simp [c95]; done) | (simp [c95]; with_reducible rfl))) | (show Fin _ _ .normal _; exact Fin_end (by first | (simp [c95]; done) | (simp [c95]; with_reducible rfl))))
        case v3 => simp [parts]
      · refine FV_W T95 (r := ?r4) ?h4 ?v4
        case h4 =>
          simp only [c95, c95_b, Lift.start]
          repeat (first | refine W_assoc ?_ | (show W _ (.seq (.region _ _) _) _ _; refine W_reg (by simp; with_reducible rfl) ?_) | (show R _ _ _ (_ :: _) _ _ _ _; refine R_op (by simp (maxSteps := 2000000) [h1, h2, h3]; with_reducible rfl) ?_) | (show R _ _ _ [] _ _ _ _; refine R_nil (by simp; with_reducible rfl) ?_) | (show W _ (.seq (.cond _ _ _) _) _ _; first | refine W_ct (by first | (simp [h1, h2, h3]; done) | fail) ?_ | refine W_cf (by first | (simp [h1, h2, h3]; done) | fail) ?_) | refine W_skip ?_ | refine W_bl (c := .seq _ _) ?_ | refine W_bl (c := .region _ _) ?_ | refine W_bl (c := .cond _ _ _) ?_ | refine W_bl (c := .block _ _) ?_ | refine W_rt ?_ | refine W_ex ?_ | refine W_end ?_ | refine W_tail (a := .region _ _) ?_ | refine W_tail (a := .cond _ _ _) ?_ | refine W_tail (a := .ret) ?_ | refine W_tail (a := .exit _) ?_ | refine W_tail (a := .block _ _) ?_ | refine QB_normal ?_ | refine QB_exit ?_ | refine QB_ret ?_ | refine QB_out (by decide) ?_ | refine QL_next ?_ | refine QL_exit ?_ | refine QL_ret ?_ | refine QL_out (by decide) ?_ | (show Fin _ _ .ret _; exact Fin_ret (by first | (simp [c95]; done) | (simp [c95]; with_reducible rfl))) | (show Fin _ _ .normal _; exact Fin_end (by first | (simp [c95]; done) | (simp [c95]; with_reducible rfl))))
        case v4 => simp [parts, h1, h2, h3]

theorem V_may (n : P2) : FV (F T) 96 [.agg [.int .i64 n.1, .int .i64 n.2]] = some (.bool (may n)) := by
  unfold may
  by_cases h1 : n.1 = 2
  · by_cases h2 : 0 ≤ n.2
    · refine FV_W T96 (r := ?r1) ?h1 ?v1
      case h1 =>
        simp only [c96, c96_b, Lift.start]
        repeat (first | refine W_assoc ?_ | (show W _ (.seq (.region _ _) _) _ _; refine W_reg (by simp; with_reducible rfl) ?_) | (show R _ _ _ (_ :: _) _ _ _ _; refine R_op (by simp (maxSteps := 2000000) [h1, h2]; with_reducible rfl) ?_) | (show R _ _ _ [] _ _ _ _; refine R_nil (by simp; with_reducible rfl) ?_) | (show W _ (.seq (.cond _ _ _) _) _ _; first | refine W_ct (by first | (simp [h1, h2]; done) | fail) ?_ | refine W_cf (by first | (simp [h1, h2]; done) | fail) ?_) | refine W_skip ?_ | refine W_bl (c := .seq _ _) ?_ | refine W_bl (c := .region _ _) ?_ | refine W_bl (c := .cond _ _ _) ?_ | refine W_bl (c := .block _ _) ?_ | refine W_rt ?_ | refine W_ex ?_ | refine W_end ?_ | refine W_tail (a := .region _ _) ?_ | refine W_tail (a := .cond _ _ _) ?_ | refine W_tail (a := .ret) ?_ | refine W_tail (a := .exit _) ?_ | refine W_tail (a := .block _ _) ?_ | refine QB_normal ?_ | refine QB_exit ?_ | refine QB_ret ?_ | refine QB_out (by decide) ?_ | refine QL_next ?_ | refine QL_exit ?_ | refine QL_ret ?_ | refine QL_out (by decide) ?_ | (show Fin _ _ .ret _; exact Fin_ret (by first | (simp [c96]; done) | (simp [c96]; with_reducible rfl))) | (show Fin _ _ .normal _; exact Fin_end (by first | (simp [c96]; done) | (simp [c96]; with_reducible rfl))))
      case v1 => simp [h1, h2]
    · refine FV_W T96 (r := ?r2) ?h2 ?v2
      case h2 =>
        simp only [c96, c96_b, Lift.start]
        repeat (first | refine W_assoc ?_ | (show W _ (.seq (.region _ _) _) _ _; refine W_reg (by simp; with_reducible rfl) ?_) | (show R _ _ _ (_ :: _) _ _ _ _; refine R_op (by simp (maxSteps := 2000000) [h1, h2]; with_reducible rfl) ?_) | (show R _ _ _ [] _ _ _ _; refine R_nil (by simp; with_reducible rfl) ?_) | (show W _ (.seq (.cond _ _ _) _) _ _; first | refine W_ct (by first | (simp [h1, h2]; done) | fail) ?_ | refine W_cf (by first | (simp [h1, h2]; done) | fail) ?_) | refine W_skip ?_ | refine W_bl (c := .seq _ _) ?_ | refine W_bl (c := .region _ _) ?_ | refine W_bl (c := .cond _ _ _) ?_ | refine W_bl (c := .block _ _) ?_ | refine W_rt ?_ | refine W_ex ?_ | refine W_end ?_ | refine W_tail (a := .region _ _) ?_ | refine W_tail (a := .cond _ _ _) ?_ | refine W_tail (a := .ret) ?_ | refine W_tail (a := .exit _) ?_ | refine W_tail (a := .block _ _) ?_ | refine QB_normal ?_ | refine QB_exit ?_ | refine QB_ret ?_ | refine QB_out (by decide) ?_ | refine QL_next ?_ | refine QL_exit ?_ | refine QL_ret ?_ | refine QL_out (by decide) ?_ | (show Fin _ _ .ret _; exact Fin_ret (by first | (simp [c96]; done) | (simp [c96]; with_reducible rfl))) | (show Fin _ _ .normal _; exact Fin_end (by first | (simp [c96]; done) | (simp [c96]; with_reducible rfl))))
      case v2 => simp [h1, h2]
  · by_cases h2 : 1 ≤ n.1
    · by_cases h3 : n.1 ≤ 5
      · refine FV_W T96 (r := ?r3) ?h3 ?v3
        case h3 =>
          simp only [c96, c96_b, Lift.start]
          repeat (first | refine W_assoc ?_ | (show W _ (.seq (.region _ _) _) _ _; refine W_reg (by simp; with_reducible rfl) ?_) | (show R _ _ _ (_ :: _) _ _ _ _; refine R_op (by simp (maxSteps := 2000000) [h1, h2, h3]; with_reducible rfl) ?_) | (show R _ _ _ [] _ _ _ _; refine R_nil (by simp; with_reducible rfl) ?_) | (show W _ (.seq (.cond _ _ _) _) _ _; first | refine W_ct (by first | (simp [h1, h2, h3]; done) | fail) ?_ | refine W_cf (by first | (simp [h1, h2, h3]; done) | fail) ?_) | refine W_skip ?_ | refine W_bl (c := .seq _ _) ?_ | refine W_bl (c := .region _ _) ?_ | refine W_bl (c := .cond _ _ _) ?_ | refine W_bl (c := .block _ _) ?_ | refine W_rt ?_ | refine W_ex ?_ | refine W_end ?_ | refine W_tail (a := .region _ _) ?_ | refine W_tail (a := .cond _ _ _) ?_ | refine W_tail (a := .ret) ?_ | refine W_tail (a := .exit _) ?_ | refine W_tail (a := .block _ _) ?_ | refine QB_normal ?_ | refine QB_exit ?_ | refine QB_ret ?_ | refine QB_out (by decide) ?_ | refine QL_next ?_ | refine QL_exit ?_ | refine QL_ret ?_ | refine QL_out (by decide) ?_ | (show Fin _ _ .ret _; exact Fin_ret (by first | (simp [c96]; done) | (simp [c96]; with_reducible rfl))) | (show Fin _ _ .normal _; exact Fin_end (by first | (simp [c96]; done) | (simp [c96]; with_reducible rfl))))
        case v3 => simp [h1, h2, h3]
      · refine FV_W T96 (r := ?r4) ?h4 ?v4
        case h4 =>
          simp only [c96, c96_b, Lift.start]
          repeat (first | refine W_assoc ?_ | (show W _ (.seq (.region _ _) _) _ _; refine W_reg (by simp; with_reducible rfl) ?_) | (show R _ _ _ (_ :: _) _ _ _ _; refine R_op (by simp (maxSteps := 2000000) [h1, h2, h3]; with_reducible rfl) ?_) | (show R _ _ _ [] _ _ _ _; refine R_nil (by simp; with_reducible rfl) ?_) | (show W _ (.seq (.cond _ _ _) _) _ _; first | refine W_ct (by first | (simp [h1, h2, h3]; done) | fail) ?_ | refine W_cf (by first | (simp [h1, h2, h3]; done) | fail) ?_) | refine W_skip ?_ | refine W_bl (c := .seq _ _) ?_ | refine W_bl (c := .region _ _) ?_ | refine W_bl (c := .cond _ _ _) ?_ | refine W_bl (c := .block _ _) ?_ | refine W_rt ?_ | refine W_ex ?_ | refine W_end ?_ | refine W_tail (a := .region _ _) ?_ | refine W_tail (a := .cond _ _ _) ?_ | refine W_tail (a := .ret) ?_ | refine W_tail (a := .exit _) ?_ | refine W_tail (a := .block _ _) ?_ | refine QB_normal ?_ | refine QB_exit ?_ | refine QB_ret ?_ | refine QB_out (by decide) ?_ | refine QL_next ?_ | refine QL_exit ?_ | refine QL_ret ?_ | refine QL_out (by decide) ?_ | (show Fin _ _ .ret _; exact Fin_ret (by first | (simp [c96]; done) | (simp [c96]; with_reducible rfl))) | (show Fin _ _ .normal _; exact Fin_end (by first | (simp [c96]; done) | (simp [c96]; with_reducible rfl))))
        case v4 => simp [h1, h2, h3]
    · refine FV_W T96 (r := ?r5) ?h5 ?v5
      case h5 =>
        simp only [c96, c96_b, Lift.start]
        repeat (first | refine W_assoc ?_ | (show W _ (.seq (.region _ _) _) _ _; refine W_reg (by simp; with_reducible rfl) ?_) | (show R _ _ _ (_ :: _) _ _ _ _; refine R_op (by simp (maxSteps := 2000000) [h1, h2]; with_reducible rfl) ?_) | (show R _ _ _ [] _ _ _ _; refine R_nil (by simp; with_reducible rfl) ?_) | (show W _ (.seq (.cond _ _ _) _) _ _; first | refine W_ct (by first | (simp [h1, h2]; done) | fail) ?_ | refine W_cf (by first | (simp [h1, h2]; done) | fail) ?_) | refine W_skip ?_ | refine W_bl (c := .seq _ _) ?_ | refine W_bl (c := .region _ _) ?_ | refine W_bl (c := .cond _ _ _) ?_ | refine W_bl (c := .block _ _) ?_ | refine W_rt ?_ | refine W_ex ?_ | refine W_end ?_ | refine W_tail (a := .region _ _) ?_ | refine W_tail (a := .cond _ _ _) ?_ | refine W_tail (a := .ret) ?_ | refine W_tail (a := .exit _) ?_ | refine W_tail (a := .block _ _) ?_ | refine QB_normal ?_ | refine QB_exit ?_ | refine QB_ret ?_ | refine QB_out (by decide) ?_ | refine QL_next ?_ | refine QL_exit ?_ | refine QL_ret ?_ | refine QL_out (by decide) ?_ | (show Fin _ _ .ret _; exact Fin_ret (by first | (simp [c96]; done) | (simp [c96]; with_reducible rfl))) | (show Fin _ _ .normal _; exact Fin_end (by first | (simp [c96]; done) | (simp [c96]; with_reducible rfl))))
      case v5 => simp [h1, h2]

/-- What the program makes of a list: the tree, or nil. -/
def madeV (s : List Tr) (l : List P2) : AV := match run s l with
  | some [t] => .ifc (ty t) (pay 199 t)
  | _ => .nilI

theorem made_loop (l : List P2) (hl : l.length ≤ 100) :
    ∀ (k i : Nat) (s q : List Tr) (st : ASt), i + k = l.length → s.length ≤ i → (∀ t ∈ s, deep t ≤ i) →
      canon [3, 8, 9, 10] st = ⟨[.top, .top, .top, .own 0 0 s.length, .top, .top, .top, .top, .ro 2 (enc e2 l) false, .int .i64 l.length, .int .i64 i, .top, .top, .top, .top, .top, .top, .top, .top, .top, .top, .top, .top, .top, .top, .top, .top, .top, .top, .top, .top, .top, .top, .top, .top, .top, .top, .top, .top, .top, .top, .top, .top, .top, .top, .top, .top, .top, .top, .top, .top, .top, .top, .top, .top, .top, .top, .top, .top, .top, .top, .top, .top, .top, .top, .top, .top, .top, .top, .top], [(0, ⟨96, 1, false, enc eT (s ++ q), 0⟩)], 1, 0⟩ →
      W T c62_k0 st (Lift.Fin c62 (madeV s (l.drop i), [])) := by
  intro k
  induction k with
  | zero =>
    intro i s q st hi hs hd hc
    have h1 : ¬ i < l.length := by omega
    have e1 : l.drop i = [] := List.drop_of_length_le (by omega)
    rw [e1]
    unfold c62_k0
    refine W_round hc ?_
    unfold c62_l0
    match s, hs, hd with
    | [], _, _ =>
      repeat (first | refine W_assoc ?_ | (show W _ (.seq (.region _ _) _) _ _; refine W_reg (by simp; with_reducible rfl) ?_) | (show R _ _ _ (_ :: _) _ _ _ _; refine R_op (by simp (maxSteps := 2000000) [h1]; with_reducible rfl) ?_) | (show R _ _ _ [] _ _ _ _; refine R_nil (by simp; with_reducible rfl) ?_) | (show W _ (.seq (.cond _ _ _) _) _ _; first | refine W_ct (by first | (simp [h1]; done) | fail) ?_ | refine W_cf (by first | (simp [h1]; done) | fail) ?_) | refine W_skip ?_ | refine W_bl (c := .seq _ _) ?_ | refine W_bl (c := .region _ _) ?_ | refine W_bl (c := .cond _ _ _) ?_ | refine W_bl (c := .block _ _) ?_ | refine W_rt ?_ | refine W_ex ?_ | refine W_end ?_ | refine W_tail (a := .region _ _) ?_ | refine W_tail (a := .cond _ _ _) ?_ | refine W_tail (a := .ret) ?_ | refine W_tail (a := .exit _) ?_ | refine W_tail (a := .block _ _) ?_ | refine QB_normal ?_ | refine QB_exit ?_ | refine QB_ret ?_ | refine QB_out (by decide) ?_ | refine QL_next ?_ | refine QL_exit ?_ | refine QL_ret ?_ | refine QL_out (by decide) ?_ | (show Fin _ _ .ret _; exact Fin_ret (by first | (simp [c62, madeV, run]; done) | (simp [c62, madeV, run]; with_reducible rfl))) | (show Fin _ _ .normal _; exact Fin_end (by first | (simp [c62, madeV, run]; done) | (simp [c62, madeV, run]; with_reducible rfl))))
    | [t], _, _ =>
      repeat (first | refine W_assoc ?_ | (show W _ (.seq (.region _ _) _) _ _; refine W_reg (by simp; with_reducible rfl) ?_) | (show R _ _ _ (_ :: _) _ _ _ _; refine R_op (by simp (maxSteps := 2000000) [h1]; with_reducible rfl) ?_) | (show R _ _ _ [] _ _ _ _; refine R_nil (by simp; with_reducible rfl) ?_) | (show W _ (.seq (.cond _ _ _) _) _ _; first | refine W_ct (by first | (simp [h1]; done) | fail) ?_ | refine W_cf (by first | (simp [h1]; done) | fail) ?_) | refine W_skip ?_ | refine W_bl (c := .seq _ _) ?_ | refine W_bl (c := .region _ _) ?_ | refine W_bl (c := .cond _ _ _) ?_ | refine W_bl (c := .block _ _) ?_ | refine W_rt ?_ | refine W_ex ?_ | refine W_end ?_ | refine W_tail (a := .region _ _) ?_ | refine W_tail (a := .cond _ _ _) ?_ | refine W_tail (a := .ret) ?_ | refine W_tail (a := .exit _) ?_ | refine W_tail (a := .block _ _) ?_ | refine QB_normal ?_ | refine QB_exit ?_ | refine QB_ret ?_ | refine QB_out (by decide) ?_ | refine QL_next ?_ | refine QL_exit ?_ | refine QL_ret ?_ | refine QL_out (by decide) ?_ | (show Fin _ _ .ret _; exact Fin_ret (by first | (simp [c62, madeV, run]; done) | (simp [c62, madeV, run]; with_reducible rfl))) | (show Fin _ _ .normal _; exact Fin_end (by first | (simp [c62, madeV, run]; done) | (simp [c62, madeV, run]; with_reducible rfl))))
    | a :: b :: r, _, _ =>
      have h2 : ¬ (r.length : Int) + 1 + 1 = 1 := by omega
      have h3 : ¬ r.length + 1 + 1 = 1 := by omega
      repeat (first | refine W_assoc ?_ | (show W _ (.seq (.region _ _) _) _ _; refine W_reg (by simp; with_reducible rfl) ?_) | (show R _ _ _ (_ :: _) _ _ _ _; refine R_op (by simp (maxSteps := 2000000) [h1, h2, h3]; with_reducible rfl) ?_) | (show R _ _ _ [] _ _ _ _; refine R_nil (by simp; with_reducible rfl) ?_) | (show W _ (.seq (.cond _ _ _) _) _ _; first | refine W_ct (by first | (simp [h1, h2, h3]; done) | fail) ?_ | refine W_cf (by first | (simp [h1, h2, h3]; done) | fail) ?_) | refine W_skip ?_ | refine W_bl (c := .seq _ _) ?_ | refine W_bl (c := .region _ _) ?_ | refine W_bl (c := .cond _ _ _) ?_ | refine W_bl (c := .block _ _) ?_ | refine W_rt ?_ | refine W_ex ?_ | refine W_end ?_ | refine W_tail (a := .region _ _) ?_ | refine W_tail (a := .cond _ _ _) ?_ | refine W_tail (a := .ret) ?_ | refine W_tail (a := .exit _) ?_ | refine W_tail (a := .block _ _) ?_ | refine QB_normal ?_ | refine QB_exit ?_ | refine QB_ret ?_ | refine QB_out (by decide) ?_ | refine QL_next ?_ | refine QL_exit ?_ | refine QL_ret ?_ | refine QL_out (by decide) ?_ | (show Fin _ _ .ret _; exact Fin_ret (by first | (simp [c62, madeV, run]; done) | (simp [c62, madeV, run]; with_reducible rfl))) | (show Fin _ _ .normal _; exact Fin_end (by first | (simp [c62, madeV, run]; done) | (simp [c62, madeV, run]; with_reducible rfl))))
  | succ k ih =>
    intro i s q st hi hs hd hc
    have hlt : i < l.length := by omega
    have hw := wrapS i _ hlt (by omega)
    have hp := V_parts (l[i]).1
    have hm := V_may (l[i])
    rw [List.drop_eq_getElem_cons hlt]
    unfold c62_k0
    refine W_round hc ?_
    unfold c62_l0
    cases hmay : may l[i] with
    | false =>
      rw [hmay] at hm
      have hstep : pushN s l[i] = none := by unfold pushN; rw [hmay]; simp
      have hw2 : IntKind.i64.wrap ((s.length : Int) - (parts (l[i]).1 : Nat)) = s.length - (parts (l[i]).1 : Nat) := by
        have := parts_cases (l[i]).1
        rw [wrap_i64 _ (by omega) (by omega)]
      repeat (first | refine W_assoc ?_ | (show W _ (.seq (.region _ _) _) _ _; refine W_reg (by simp; with_reducible rfl) ?_) | (show R _ _ _ (_ :: _) _ _ _ _; refine R_op (by simp (maxSteps := 2000000) [hlt, hw, hp, hm, hw2]; with_reducible rfl) ?_) | (show R _ _ _ [] _ _ _ _; refine R_nil (by simp; with_reducible rfl) ?_) | (show W _ (.seq (.cond _ _ _) _) _ _; first | refine W_ct (by first | (simp [hlt, hw, hp, hm, hw2]; done) | fail) ?_ | refine W_cf (by first | (simp [hlt, hw, hp, hm, hw2]; done) | fail) ?_) | refine W_skip ?_ | refine W_bl (c := .seq _ _) ?_ | refine W_bl (c := .region _ _) ?_ | refine W_bl (c := .cond _ _ _) ?_ | refine W_bl (c := .block _ _) ?_ | refine W_rt ?_ | refine W_ex ?_ | refine W_end ?_ | refine W_tail (a := .region _ _) ?_ | refine W_tail (a := .cond _ _ _) ?_ | refine W_tail (a := .ret) ?_ | refine W_tail (a := .exit _) ?_ | refine W_tail (a := .block _ _) ?_ | refine QB_normal ?_ | refine QB_exit ?_ | refine QB_ret ?_ | refine QB_out (by decide) ?_ | refine QL_next ?_ | refine QL_exit ?_ | refine QL_ret ?_ | refine QL_out (by decide) ?_ | (show Fin _ _ .ret _; exact Fin_ret (by first | (simp [c62, madeV, run, hstep]; done) | (simp [c62, madeV, run, hstep]; with_reducible rfl))) | (show Fin _ _ .normal _; exact Fin_end (by first | (simp [c62, madeV, run, hstep]; done) | (simp [c62, madeV, run, hstep]; with_reducible rfl))))
    | true =>
      rw [hmay] at hm
      rcases parts_cases (l[i]).1 with ⟨e1, e2⟩ | ⟨e1, e2⟩ | ⟨e1, e2, e3, e4⟩
      · rw [e2, e1] at hp
        simp only [e1] at hm
        by_cases hlen : 1 ≤ s.length
        · obtain ⟨s0, t, rfl⟩ := split_last hlen
          have hz := may_zero hmay (by omega)
          have hn : l[i] = (3, 0) := Prod.ext e1 hz
          have hstep : pushN (s0 ++ [t]) l[i] = some (s0 ++ [.no t]) := by rw [hn]; exact step_no s0 t
          have hm0 : madeV (s0 ++ [t]) (l[i] :: l.drop (i + 1)) = madeV (s0 ++ [.no t]) (l.drop (i + 1)) := by simp only [madeV, run, hstep]
          rw [hm0]
          have hdt := hd t (by simp)
          simp only [List.length_append, List.length_cons, List.length_nil] at hs
          have hf := fold_no t (by omega)
          have hw2 : IntKind.i64.wrap ((s0.length : Int) + 1 - 1) = s0.length := by
            rw [wrap_i64 _ (by omega) (by omega)]; omega
          have hg : (s0 ++ [t])[s0.length]? = some t := by simp
          have hnn : ¬ (s0.length : Int) < 0 := by omega
          have hw3 : IntKind.i64.wrap (s0.length : Int) = s0.length := by rw [wrap_i64 _ (by omega) (by omega)]
          cases s0 with
          | nil =>
            repeat (first | refine W_assoc ?_ | (show W _ (.seq (.region _ _) _) _ _; refine W_reg (by simp; with_reducible rfl) ?_) | (show R _ _ _ (_ :: _) _ _ _ _; refine R_op (by simp (maxSteps := 2000000) [hlt, hw, hp, hm, hw2, hw3, e1, hf, hnn]; with_reducible rfl) ?_) | (show R _ _ _ [] _ _ _ _; refine R_nil (by simp; with_reducible rfl) ?_) | (show W _ (.seq (.cond _ _ _) _) _ _; first | refine W_ct (by first | (simp [hlt, hw, hp, hm, hw2, hw3, e1, hf, hnn]; done) | fail) ?_ | refine W_cf (by first | (simp [hlt, hw, hp, hm, hw2, hw3, e1, hf, hnn]; done) | fail) ?_) | refine W_skip ?_ | refine W_bl (c := .seq _ _) ?_ | refine W_bl (c := .region _ _) ?_ | refine W_bl (c := .cond _ _ _) ?_ | refine W_bl (c := .block _ _) ?_ | refine W_rt ?_ | refine W_ex ?_ | refine W_end ?_ | refine W_tail (a := .region _ _) ?_ | refine W_tail (a := .cond _ _ _) ?_ | refine W_tail (a := .ret) ?_ | refine W_tail (a := .exit _) ?_ | refine W_tail (a := .block _ _) ?_ | refine QB_normal ?_ | refine QB_exit ?_ | refine QB_ret ?_ | refine QB_out (by decide) ?_ | refine QL_next ?_ | refine QL_exit ?_ | refine QL_ret ?_ | refine QL_out (by decide) ?_ | (show Fin _ _ .ret _; exact Fin_ret (by first | (simp; done) | (simp; with_reducible rfl))) | (show Fin _ _ .normal _; exact Fin_end (by first | (simp; done) | (simp; with_reducible rfl))))
            exact ih (i + 1) [.no t] [] _ (by omega) (by simp) (fun u hu => by simp at hu; subst hu; simp [deep]; omega) (by simp; try rfl)
          | cons u s0 =>
            simp at hs hnn hw2 hw3
            have hlt2 : (s0.length : Int) < s0.length + 1 := by omega
            have hlt3 : s0.length + 1 < s0.length + 1 + 1 := by omega
            have hb : (s0.length + 1 + 1) * 16 ≤ 140737488355328 := by omega
            have hb2 : s0.length ≤ 140737488355326 := by omega
            have hle : (s0.length : Int) ≤ s0.length + 1 := by omega
            have hle2 : s0.length + 1 ≤ s0.length + 1 + 1 + q.length := by omega
            repeat (first | refine W_assoc ?_ | (show W _ (.seq (.region _ _) _) _ _; refine W_reg (by simp; with_reducible rfl) ?_) | (show R _ _ _ (_ :: _) _ _ _ _; refine R_op (by simp (maxSteps := 2000000) [hlt, hw, hp, hm, hw2, hw3, e1, hf, hnn, hlt2, hlt3, hb, hb2, hle, hle2]; with_reducible rfl) ?_) | (show R _ _ _ [] _ _ _ _; refine R_nil (by simp; with_reducible rfl) ?_) | (show W _ (.seq (.cond _ _ _) _) _ _; first | refine W_ct (by first | (simp [hlt, hw, hp, hm, hw2, hw3, e1, hf, hnn, hlt2, hlt3, hb, hb2, hle, hle2]; done) | fail) ?_ | refine W_cf (by first | (simp [hlt, hw, hp, hm, hw2, hw3, e1, hf, hnn, hlt2, hlt3, hb, hb2, hle, hle2]; done) | fail) ?_) | refine W_skip ?_ | refine W_bl (c := .seq _ _) ?_ | refine W_bl (c := .region _ _) ?_ | refine W_bl (c := .cond _ _ _) ?_ | refine W_bl (c := .block _ _) ?_ | refine W_rt ?_ | refine W_ex ?_ | refine W_end ?_ | refine W_tail (a := .region _ _) ?_ | refine W_tail (a := .cond _ _ _) ?_ | refine W_tail (a := .ret) ?_ | refine W_tail (a := .exit _) ?_ | refine W_tail (a := .block _ _) ?_ | refine QB_normal ?_ | refine QB_exit ?_ | refine QB_ret ?_ | refine QB_out (by decide) ?_ | refine QL_next ?_ | refine QL_exit ?_ | refine QL_ret ?_ | refine QL_out (by decide) ?_ | (show Fin _ _ .ret _; exact Fin_ret (by first | (simp; done) | (simp; with_reducible rfl))) | (show Fin _ _ .normal _; exact Fin_end (by first | (simp; done) | (simp; with_reducible rfl))))
            refine ih (i + 1) (u :: s0 ++ [.no t]) q _ ?_ ?_ ?_ ?_
            · omega
            · simp; omega
            · intro x hx
              rcases List.mem_append.1 hx with hx | hx
              · have := hd x (List.mem_append.2 (.inl hx)); omega
              · simp at hx; subst hx; simp [deep]; omega
            · simp
        · obtain rfl : s = [] := List.eq_nil_of_length_eq_zero (by omega)
          have hstep : pushN [] l[i] = none := by unfold pushN; rw [hmay, e2]; simp
          have hwm : IntKind.i64.wrap (-1) = -1 := by decide
          repeat (first | refine W_assoc ?_ | (show W _ (.seq (.region _ _) _) _ _; refine W_reg (by simp; with_reducible rfl) ?_) | (show R _ _ _ (_ :: _) _ _ _ _; refine R_op (by simp (maxSteps := 2000000) [hlt, hw, hp, hm, e1, hwm]; with_reducible rfl) ?_) | (show R _ _ _ [] _ _ _ _; refine R_nil (by simp; with_reducible rfl) ?_) | (show W _ (.seq (.cond _ _ _) _) _ _; first | refine W_ct (by first | (simp [hlt, hw, hp, hm, e1, hwm]; done) | fail) ?_ | refine W_cf (by first | (simp [hlt, hw, hp, hm, e1, hwm]; done) | fail) ?_) | refine W_skip ?_ | refine W_bl (c := .seq _ _) ?_ | refine W_bl (c := .region _ _) ?_ | refine W_bl (c := .cond _ _ _) ?_ | refine W_bl (c := .block _ _) ?_ | refine W_rt ?_ | refine W_ex ?_ | refine W_end ?_ | refine W_tail (a := .region _ _) ?_ | refine W_tail (a := .cond _ _ _) ?_ | refine W_tail (a := .ret) ?_ | refine W_tail (a := .exit _) ?_ | refine W_tail (a := .block _ _) ?_ | refine QB_normal ?_ | refine QB_exit ?_ | refine QB_ret ?_ | refine QB_out (by decide) ?_ | refine QL_next ?_ | refine QL_exit ?_ | refine QL_ret ?_ | refine QL_out (by decide) ?_ | (show Fin _ _ .ret _; exact Fin_ret (by first | (simp [c62, madeV, run, hstep]; done) | (simp [c62, madeV, run, hstep]; with_reducible rfl))) | (show Fin _ _ .normal _; exact Fin_end (by first | (simp [c62, madeV, run, hstep]; done) | (simp [c62, madeV, run, hstep]; with_reducible rfl))))
      · rw [e2] at hp
        by_cases hlen : 2 ≤ s.length
        · obtain ⟨s0, a, b, rfl⟩ := split_last2 hlen
          have hz := may_zero hmay (by omega)
          have hn : l[i] = (if decide ((l[i]).1 = 5) = true then 5 else 4, 0) := by
            apply Prod.ext
            · rcases e1 with h | h <;> simp [h]
            · simpa using hz
          have hstep : pushN (s0 ++ [a, b]) l[i] = some (s0 ++ [.two (decide ((l[i]).1 = 5)) a b]) := by
            have := step_two s0 a b (decide ((l[i]).1 = 5))
            rw [← hn] at this; exact this
          have hm0 : madeV (s0 ++ [a, b]) (l[i] :: l.drop (i + 1)) = madeV (s0 ++ [.two (decide ((l[i]).1 = 5)) a b]) (l.drop (i + 1)) := by simp only [madeV, run, hstep]
          rw [hm0]
          have hda := hd a (by simp)
          have hdb := hd b (by simp)
          simp only [List.length_append, List.length_cons, List.length_nil] at hs
          have hf := fold_two (decide ((l[i]).1 = 5)) a b (by omega) (by omega)
          have hw2 : IntKind.i64.wrap ((s0.length : Int) + (1 + 1) - 2) = s0.length := by
            rw [wrap_i64 _ (by omega) (by omega)]; omega
          have hw3 : IntKind.i64.wrap (s0.length : Int) = s0.length := by rw [wrap_i64 _ (by omega) (by omega)]
          have hw4 : IntKind.i64.wrap ((s0.length : Int) + 1) = s0.length + 1 := by rw [wrap_i64 _ (by omega) (by omega)]
          have hnn : ¬ (s0.length : Int) < 0 := by omega
          have hne3 : ¬ (l[i]).1 = 3 := by omega
          have hdd : ∀ u ∈ s0 ++ [.two (decide ((l[i]).1 = 5)) a b], deep u ≤ i + 1 := by
            intro u hu
            rcases List.mem_append.1 hu with hu | hu
            · have := hd u (List.mem_append.2 (.inl hu)); omega
            · simp at hu; subst hu; simp [deep]; omega
          have h45 : ((l[i]).1 = 4 ∧ ¬ (l[i]).1 = 5) ∨ ((l[i]).1 = 5 ∧ ¬ (l[i]).1 = 4) := by omega
          rcases h45 with ⟨e1, e1'⟩ | ⟨e1, e1'⟩
          · have hB : decide ((l[i]).1 = 5) = false := by simp [e1]
            rw [hB]
            have hdd0 := hdd
            rw [hB] at hdd0
            simp only [e1] at hp hm hf hdd
            simp at hf hdd
            cases s0 with
            | nil =>
              repeat (first | refine W_assoc ?_ | (show W _ (.seq (.region _ _) _) _ _; refine W_reg (by simp; with_reducible rfl) ?_) | (show R _ _ _ (_ :: _) _ _ _ _; refine R_op (by simp (maxSteps := 2000000) [hlt, hw, hp, hm, hw2, hw3, hw4, e1, hf, hnn]; with_reducible rfl) ?_) | (show R _ _ _ [] _ _ _ _; refine R_nil (by simp; with_reducible rfl) ?_) | (show W _ (.seq (.cond _ _ _) _) _ _; first | refine W_ct (by first | (simp [hlt, hw, hp, hm, hw2, hw3, hw4, e1, hf, hnn]; done) | fail) ?_ | refine W_cf (by first | (simp [hlt, hw, hp, hm, hw2, hw3, hw4, e1, hf, hnn]; done) | fail) ?_) | refine W_skip ?_ | refine W_bl (c := .seq _ _) ?_ | refine W_bl (c := .region _ _) ?_ | refine W_bl (c := .cond _ _ _) ?_ | refine W_bl (c := .block _ _) ?_ | refine W_rt ?_ | refine W_ex ?_ | refine W_end ?_ | refine W_tail (a := .region _ _) ?_ | refine W_tail (a := .cond _ _ _) ?_ | refine W_tail (a := .ret) ?_ | refine W_tail (a := .exit _) ?_ | refine W_tail (a := .block _ _) ?_ | refine QB_normal ?_ | refine QB_exit ?_ | refine QB_ret ?_ | refine QB_out (by decide) ?_ | refine QL_next ?_ | refine QL_exit ?_ | refine QL_ret ?_ | refine QL_out (by decide) ?_ | (show Fin _ _ .ret _; exact Fin_ret (by first | (simp; done) | (simp; with_reducible rfl))) | (show Fin _ _ .normal _; exact Fin_end (by first | (simp; done) | (simp; with_reducible rfl))))
              refine ih (i + 1) [.two false a b] [] _ ?_ ?_ ?_ ?_
              · omega
              · simp
              · simpa using hdd
              · simp
            | cons u s0 =>
              simp only [List.length_cons] at hs
              have g1 : IntKind.i64.wrap ((s0.length : Int) + 2 + 1 - 2) = s0.length + 1 := by rw [wrap_i64 _ (by omega) (by omega)]; omega
              have g2 : ¬ (s0.length : Int) + 1 < 0 := by omega
              have g3 : (s0.length : Int) + 1 < s0.length + 2 + 1 := by omega
              have g4 : s0.length + 1 < s0.length + 2 + 1 := by omega
              have g5 : IntKind.i64.wrap ((s0.length : Int) + 1 + 1) = s0.length + 1 + 1 := by rw [wrap_i64 _ (by omega) (by omega)]
              have g6 : (s0.length : Int) + 1 + 1 < s0.length + 2 + 1 := by omega
              have g7 : (0 : Int) ≤ (s0.length : Int) + 1 := by omega
              have g8 : (0 : Int) ≤ (s0.length : Int) + 1 + 1 := by omega
              have g9 : (s0.length + 1 + 1) * 16 ≤ 140737488355328 := by omega
              have ga : s0.length ≤ 140737488355326 := by omega
              have gb : (s0.length : Int) + 1 ≤ s0.length + 2 + 1 := by omega
              have gc : ((s0.length : Int) + 1 + 1).toNat = s0.length + 1 + 1 := by omega
              have gd : ((s0.length : Int) + 1).toNat = s0.length + 1 := by omega
              repeat (first | refine W_assoc ?_ | (show W _ (.seq (.region _ _) _) _ _; refine W_reg (by simp; with_reducible rfl) ?_) | (show R _ _ _ (_ :: _) _ _ _ _; refine R_op (by simp (maxSteps := 2000000) [hlt, hw, hp, hm, e1, hf, g1, g2, g3, g4, g5, g6, g7, g8, g9, ga, gb, gc, gd]; with_reducible rfl) ?_) | (show R _ _ _ [] _ _ _ _; refine R_nil (by simp; with_reducible rfl) ?_) | (show W _ (.seq (.cond _ _ _) _) _ _; first | refine W_ct (by first | (simp [hlt, hw, hp, hm, e1, hf, g1, g2, g3, g4, g5, g6, g7, g8, g9, ga, gb, gc, gd]; done) | fail) ?_ | refine W_cf (by first | (simp [hlt, hw, hp, hm, e1, hf, g1, g2, g3, g4, g5, g6, g7, g8, g9, ga, gb, gc, gd]; done) | fail) ?_) | refine W_skip ?_ | refine W_bl (c := .seq _ _) ?_ | refine W_bl (c := .region _ _) ?_ | refine W_bl (c := .cond _ _ _) ?_ | refine W_bl (c := .block _ _) ?_ | refine W_rt ?_ | refine W_ex ?_ | refine W_end ?_ | refine W_tail (a := .region _ _) ?_ | refine W_tail (a := .cond _ _ _) ?_ | refine W_tail (a := .ret) ?_ | refine W_tail (a := .exit _) ?_ | refine W_tail (a := .block _ _) ?_ | refine QB_normal ?_ | refine QB_exit ?_ | refine QB_ret ?_ | refine QB_out (by decide) ?_ | refine QL_next ?_ | refine QL_exit ?_ | refine QL_ret ?_ | refine QL_out (by decide) ?_ | (show Fin _ _ .ret _; exact Fin_ret (by first | (simp; done) | (simp; with_reducible rfl))) | (show Fin _ _ .normal _; exact Fin_end (by first | (simp; done) | (simp; with_reducible rfl))))
              refine ih (i + 1) (u :: s0 ++ [.two false a b]) (b :: q) _ ?_ ?_ ?_ ?_
              · omega
              · simp; omega
              · exact hdd0
              · simp
          · have hB : decide ((l[i]).1 = 5) = true := by simp [e1]
            rw [hB]
            have hdd0 := hdd
            rw [hB] at hdd0
            simp only [e1] at hp hm hf hdd
            simp at hf hdd
            cases s0 with
            | nil =>
              repeat (first | refine W_assoc ?_ | (show W _ (.seq (.region _ _) _) _ _; refine W_reg (by simp; with_reducible rfl) ?_) | (show R _ _ _ (_ :: _) _ _ _ _; refine R_op (by simp (maxSteps := 2000000) [hlt, hw, hp, hm, hw2, hw3, hw4, e1, hf, hnn]; with_reducible rfl) ?_) | (show R _ _ _ [] _ _ _ _; refine R_nil (by simp; with_reducible rfl) ?_) | (show W _ (.seq (.cond _ _ _) _) _ _; first | refine W_ct (by first | (simp [hlt, hw, hp, hm, hw2, hw3, hw4, e1, hf, hnn]; done) | fail) ?_ | refine W_cf (by first | (simp [hlt, hw, hp, hm, hw2, hw3, hw4, e1, hf, hnn]; done) | fail) ?_) | refine W_skip ?_ | refine W_bl (c := .seq _ _) ?_ | refine W_bl (c := .region _ _) ?_ | refine W_bl (c := .cond _ _ _) ?_ | refine W_bl (c := .block _ _) ?_ | refine W_rt ?_ | refine W_ex ?_ | refine W_end ?_ | refine W_tail (a := .region _ _) ?_ | refine W_tail (a := .cond _ _ _) ?_ | refine W_tail (a := .ret) ?_ | refine W_tail (a := .exit _) ?_ | refine W_tail (a := .block _ _) ?_ | refine QB_normal ?_ | refine QB_exit ?_ | refine QB_ret ?_ | refine QB_out (by decide) ?_ | refine QL_next ?_ | refine QL_exit ?_ | refine QL_ret ?_ | refine QL_out (by decide) ?_ | (show Fin _ _ .ret _; exact Fin_ret (by first | (simp; done) | (simp; with_reducible rfl))) | (show Fin _ _ .normal _; exact Fin_end (by first | (simp; done) | (simp; with_reducible rfl))))
              refine ih (i + 1) [.two true a b] [] _ ?_ ?_ ?_ ?_
              · omega
              · simp
              · simpa using hdd
              · simp
            | cons u s0 =>
              simp only [List.length_cons] at hs
              have g1 : IntKind.i64.wrap ((s0.length : Int) + 2 + 1 - 2) = s0.length + 1 := by rw [wrap_i64 _ (by omega) (by omega)]; omega
              have g2 : ¬ (s0.length : Int) + 1 < 0 := by omega
              have g3 : (s0.length : Int) + 1 < s0.length + 2 + 1 := by omega
              have g4 : s0.length + 1 < s0.length + 2 + 1 := by omega
              have g5 : IntKind.i64.wrap ((s0.length : Int) + 1 + 1) = s0.length + 1 + 1 := by rw [wrap_i64 _ (by omega) (by omega)]
              have g6 : (s0.length : Int) + 1 + 1 < s0.length + 2 + 1 := by omega
              have g7 : (0 : Int) ≤ (s0.length : Int) + 1 := by omega
              have g8 : (0 : Int) ≤ (s0.length : Int) + 1 + 1 := by omega
              have g9 : (s0.length + 1 + 1) * 16 ≤ 140737488355328 := by omega
              have ga : s0.length ≤ 140737488355326 := by omega
              have gb : (s0.length : Int) + 1 ≤ s0.length + 2 + 1 := by omega
              have gc : ((s0.length : Int) + 1 + 1).toNat = s0.length + 1 + 1 := by omega
              have gd : ((s0.length : Int) + 1).toNat = s0.length + 1 := by omega
              repeat (first | refine W_assoc ?_ | (show W _ (.seq (.region _ _) _) _ _; refine W_reg (by simp; with_reducible rfl) ?_) | (show R _ _ _ (_ :: _) _ _ _ _; refine R_op (by simp (maxSteps := 2000000) [hlt, hw, hp, hm, e1, hf, g1, g2, g3, g4, g5, g6, g7, g8, g9, ga, gb, gc, gd]; with_reducible rfl) ?_) | (show R _ _ _ [] _ _ _ _; refine R_nil (by simp; with_reducible rfl) ?_) | (show W _ (.seq (.cond _ _ _) _) _ _; first | refine W_ct (by first | (simp [hlt, hw, hp, hm, e1, hf, g1, g2, g3, g4, g5, g6, g7, g8, g9, ga, gb, gc, gd]; done) | fail) ?_ | refine W_cf (by first | (simp [hlt, hw, hp, hm, e1, hf, g1, g2, g3, g4, g5, g6, g7, g8, g9, ga, gb, gc, gd]; done) | fail) ?_) | refine W_skip ?_ | refine W_bl (c := .seq _ _) ?_ | refine W_bl (c := .region _ _) ?_ | refine W_bl (c := .cond _ _ _) ?_ | refine W_bl (c := .block _ _) ?_ | refine W_rt ?_ | refine W_ex ?_ | refine W_end ?_ | refine W_tail (a := .region _ _) ?_ | refine W_tail (a := .cond _ _ _) ?_ | refine W_tail (a := .ret) ?_ | refine W_tail (a := .exit _) ?_ | refine W_tail (a := .block _ _) ?_ | refine QB_normal ?_ | refine QB_exit ?_ | refine QB_ret ?_ | refine QB_out (by decide) ?_ | refine QL_next ?_ | refine QL_exit ?_ | refine QL_ret ?_ | refine QL_out (by decide) ?_ | (show Fin _ _ .ret _; exact Fin_ret (by first | (simp; done) | (simp; with_reducible rfl))) | (show Fin _ _ .normal _; exact Fin_end (by first | (simp; done) | (simp; with_reducible rfl))))
              refine ih (i + 1) (u :: s0 ++ [.two true a b]) (b :: q) _ ?_ ?_ ?_ ?_
              · omega
              · simp; omega
              · exact hdd0
              · simp
        · have hstep : pushN s l[i] = none := by unfold pushN; rw [hmay, e2, if_neg (by omega)]
          have hw2 : IntKind.i64.wrap ((s.length : Int) - 2) = s.length - 2 := by rw [wrap_i64 _ (by omega) (by omega)]
          have hneg : (s.length : Int) - 2 < 0 := by omega
          have hneg2 : (s.length : Int) < 2 := by omega
          repeat (first | refine W_assoc ?_ | (show W _ (.seq (.region _ _) _) _ _; refine W_reg (by simp; with_reducible rfl) ?_) | (show R _ _ _ (_ :: _) _ _ _ _; refine R_op (by simp (maxSteps := 2000000) [hlt, hw, hp, hm, hw2, hneg, hneg2]; with_reducible rfl) ?_) | (show R _ _ _ [] _ _ _ _; refine R_nil (by simp; with_reducible rfl) ?_) | (show W _ (.seq (.cond _ _ _) _) _ _; first | refine W_ct (by first | (simp [hlt, hw, hp, hm, hw2, hneg, hneg2]; done) | fail) ?_ | refine W_cf (by first | (simp [hlt, hw, hp, hm, hw2, hneg, hneg2]; done) | fail) ?_) | refine W_skip ?_ | refine W_bl (c := .seq _ _) ?_ | refine W_bl (c := .region _ _) ?_ | refine W_bl (c := .cond _ _ _) ?_ | refine W_bl (c := .block _ _) ?_ | refine W_rt ?_ | refine W_ex ?_ | refine W_end ?_ | refine W_tail (a := .region _ _) ?_ | refine W_tail (a := .cond _ _ _) ?_ | refine W_tail (a := .ret) ?_ | refine W_tail (a := .exit _) ?_ | refine W_tail (a := .block _ _) ?_ | refine QB_normal ?_ | refine QB_exit ?_ | refine QB_ret ?_ | refine QB_out (by decide) ?_ | refine QL_next ?_ | refine QL_exit ?_ | refine QL_ret ?_ | refine QL_out (by decide) ?_ | (show Fin _ _ .ret _; exact Fin_ret (by first | (simp [c62, madeV, run, hstep]; done) | (simp [c62, madeV, run, hstep]; with_reducible rfl))) | (show Fin _ _ .normal _; exact Fin_end (by first | (simp [c62, madeV, run, hstep]; done) | (simp [c62, madeV, run, hstep]; with_reducible rfl))))
      · rw [e4] at hp
        have hstep := step_leaf s l[i] hmay e4
        have hm0 : madeV s (l[i] :: l.drop (i + 1)) = madeV (s ++ [.leaf l[i]]) (l.drop (i + 1)) := by simp only [madeV, run, hstep]
        rw [hm0]
        have hf := fold_leaf l[i]
        have hw2 : IntKind.i64.wrap ((s.length : Int) - ((0 : Nat) : Int)) = s.length := by
          rw [wrap_i64 _ (by omega) (by omega)]; simp
        have hnn : ¬ (s.length : Int) < 0 := by omega
        have hb : (s.length + 1) * 16 ≤ 140737488355328 := by omega
        have hb2 : s.length + 1 ≤ 140737488355328 := by omega
        simp only [Int.natCast_zero, Int.sub_zero] at hw2
        have hdd : ∀ u ∈ s ++ [.leaf l[i]], deep u ≤ i + 1 := by
          intro u hu
          rcases List.mem_append.1 hu with hu | hu
          · have := hd u hu; omega
          · simp at hu; subst hu; simp [deep]
        cases q with
        | nil =>
          repeat (first | refine W_assoc ?_ | (show W _ (.seq (.region _ _) _) _ _; refine W_reg (by simp; with_reducible rfl) ?_) | (show R _ _ _ (_ :: _) _ _ _ _; refine R_op (by simp (maxSteps := 2000000) [hlt, hw, hp, hm, hw2, e1, e2, e3, hf, hnn, hb, hb2]; with_reducible rfl) ?_) | (show R _ _ _ [] _ _ _ _; refine R_nil (by simp; with_reducible rfl) ?_) | (show W _ (.seq (.cond _ _ _) _) _ _; first | refine W_ct (by first | (simp [hlt, hw, hp, hm, hw2, e1, e2, e3, hf, hnn, hb, hb2]; done) | fail) ?_ | refine W_cf (by first | (simp [hlt, hw, hp, hm, hw2, e1, e2, e3, hf, hnn, hb, hb2]; done) | fail) ?_) | refine W_skip ?_ | refine W_bl (c := .seq _ _) ?_ | refine W_bl (c := .region _ _) ?_ | refine W_bl (c := .cond _ _ _) ?_ | refine W_bl (c := .block _ _) ?_ | refine W_rt ?_ | refine W_ex ?_ | refine W_end ?_ | refine W_tail (a := .region _ _) ?_ | refine W_tail (a := .cond _ _ _) ?_ | refine W_tail (a := .ret) ?_ | refine W_tail (a := .exit _) ?_ | refine W_tail (a := .block _ _) ?_ | refine QB_normal ?_ | refine QB_exit ?_ | refine QB_ret ?_ | refine QB_out (by decide) ?_ | refine QL_next ?_ | refine QL_exit ?_ | refine QL_ret ?_ | refine QL_out (by decide) ?_ | (show Fin _ _ .ret _; exact Fin_ret (by first | (simp; done) | (simp; with_reducible rfl))) | (show Fin _ _ .normal _; exact Fin_end (by first | (simp; done) | (simp; with_reducible rfl))))
          refine ih (i + 1) (s ++ [.leaf l[i]]) [] _ ?_ ?_ ?_ ?_
          · omega
          · simp; omega
          · exact hdd
          · simp
        | cons u q =>
          cases s with
          | nil =>
            repeat (first | refine W_assoc ?_ | (show W _ (.seq (.region _ _) _) _ _; refine W_reg (by simp; with_reducible rfl) ?_) | (show R _ _ _ (_ :: _) _ _ _ _; refine R_op (by simp (maxSteps := 2000000) [hlt, hw, hp, hm, hw2, e1, e2, e3, hf, hnn, hb, hb2]; with_reducible rfl) ?_) | (show R _ _ _ [] _ _ _ _; refine R_nil (by simp; with_reducible rfl) ?_) | (show W _ (.seq (.cond _ _ _) _) _ _; first | refine W_ct (by first | (simp [hlt, hw, hp, hm, hw2, e1, e2, e3, hf, hnn, hb, hb2]; done) | fail) ?_ | refine W_cf (by first | (simp [hlt, hw, hp, hm, hw2, e1, e2, e3, hf, hnn, hb, hb2]; done) | fail) ?_) | refine W_skip ?_ | refine W_bl (c := .seq _ _) ?_ | refine W_bl (c := .region _ _) ?_ | refine W_bl (c := .cond _ _ _) ?_ | refine W_bl (c := .block _ _) ?_ | refine W_rt ?_ | refine W_ex ?_ | refine W_end ?_ | refine W_tail (a := .region _ _) ?_ | refine W_tail (a := .cond _ _ _) ?_ | refine W_tail (a := .ret) ?_ | refine W_tail (a := .exit _) ?_ | refine W_tail (a := .block _ _) ?_ | refine QB_normal ?_ | refine QB_exit ?_ | refine QB_ret ?_ | refine QB_out (by decide) ?_ | refine QL_next ?_ | refine QL_exit ?_ | refine QL_ret ?_ | refine QL_out (by decide) ?_ | (show Fin _ _ .ret _; exact Fin_ret (by first | (simp; done) | (simp; with_reducible rfl))) | (show Fin _ _ .normal _; exact Fin_end (by first | (simp; done) | (simp; with_reducible rfl))))
            exact ih (i + 1) [.leaf l[i]] [] _ (by omega) (by simp) hdd (by simp; try rfl)
          | cons v s =>
            have hw3 : IntKind.i64.wrap ((s.length : Int) + 1) = s.length + 1 := by simp at hs; rw [wrap_i64 _ (by omega) (by omega)]
            have hnn3 : ¬ (s.length : Int) + 1 < 0 := by omega
            have hge : (0 : Int) ≤ (s.length : Int) + 1 := by omega
            have hb3 : (s.length + 1 + 1) * 16 ≤ 140737488355328 := by simp at hs; omega
            have hb4 : s.length ≤ 140737488355326 := by simp at hs; omega
            repeat (first | refine W_assoc ?_ | (show W _ (.seq (.region _ _) _) _ _; refine W_reg (by simp; with_reducible rfl) ?_) | (show R _ _ _ (_ :: _) _ _ _ _; refine R_op (by simp (maxSteps := 2000000) [hlt, hw, hp, hm, hw2, hw3, hnn3, hge, e1, e2, e3, hf, hnn, hb, hb2, hb3, hb4]; with_reducible rfl) ?_) | (show R _ _ _ [] _ _ _ _; refine R_nil (by simp; with_reducible rfl) ?_) | (show W _ (.seq (.cond _ _ _) _) _ _; first | refine W_ct (by first | (simp [hlt, hw, hp, hm, hw2, hw3, hnn3, hge, e1, e2, e3, hf, hnn, hb, hb2, hb3, hb4]; done) | fail) ?_ | refine W_cf (by first | (simp [hlt, hw, hp, hm, hw2, hw3, hnn3, hge, e1, e2, e3, hf, hnn, hb, hb2, hb3, hb4]; done) | fail) ?_) | refine W_skip ?_ | refine W_bl (c := .seq _ _) ?_ | refine W_bl (c := .region _ _) ?_ | refine W_bl (c := .cond _ _ _) ?_ | refine W_bl (c := .block _ _) ?_ | refine W_rt ?_ | refine W_ex ?_ | refine W_end ?_ | refine W_tail (a := .region _ _) ?_ | refine W_tail (a := .cond _ _ _) ?_ | refine W_tail (a := .ret) ?_ | refine W_tail (a := .exit _) ?_ | refine W_tail (a := .block _ _) ?_ | refine QB_normal ?_ | refine QB_exit ?_ | refine QB_ret ?_ | refine QB_out (by decide) ?_ | refine QL_next ?_ | refine QL_exit ?_ | refine QL_ret ?_ | refine QL_out (by decide) ?_ | (show Fin _ _ .ret _; exact Fin_ret (by first | (simp; done) | (simp; with_reducible rfl))) | (show Fin _ _ .normal _; exact Fin_end (by first | (simp; done) | (simp; with_reducible rfl))))
            refine ih (i + 1) (v :: s ++ [.leaf l[i]]) q _ ?_ ?_ ?_ ?_
            · omega
            · simp at hs ⊢; omega
            · exact hdd
            · simp

/-- The program's tree of a list, or nil. -/
def treeV : Option Tr → AV
  | some t => .ifc (ty t) (pay 199 t)
  | none => .nilI

theorem madeV_eq (l : List P2) : madeV [] l = treeV (made l) := by
  unfold madeV made treeV
  split <;> simp_all

theorem V_made (l : List P2) (hl : l.length ≤ 100) : FV (F T) 62 [.ro 2 (enc e2 l) false] = some (treeV (made l)) := by
  have h : F T 62 [.ro 2 (enc e2 l) false] [] = some (madeV [] l, []) := by
    refine F_W T62 ?_
    simp only [c62, c62_b, Lift.start]
    repeat (first | refine W_assoc ?_ | (show W _ (.seq (.region _ _) _) _ _; refine W_reg (by simp; with_reducible rfl) ?_) | (show R _ _ _ (_ :: _) _ _ _ _; refine R_op (by simp (maxSteps := 2000000); with_reducible rfl) ?_) | (show R _ _ _ [] _ _ _ _; refine R_nil (by simp; with_reducible rfl) ?_) | (show W _ (.seq (.cond _ _ _) _) _ _; first | refine W_ct (by first | (simp; done) | fail) ?_ | refine W_cf (by first | (simp; done) | fail) ?_) | refine W_skip ?_ | refine W_bl (c := .seq _ _) ?_ | refine W_bl (c := .region _ _) ?_ | refine W_bl (c := .cond _ _ _) ?_ | refine W_bl (c := .block _ _) ?_ | refine W_rt ?_ | refine W_ex ?_ | refine W_end ?_ | refine W_tail (a := .region _ _) ?_ | refine W_tail (a := .cond _ _ _) ?_ | refine W_tail (a := .ret) ?_ | refine W_tail (a := .exit _) ?_ | refine W_tail (a := .block _ _) ?_ | refine QB_normal ?_ | refine QB_exit ?_ | refine QB_ret ?_ | refine QB_out (by decide) ?_ | refine QL_next ?_ | refine QL_exit ?_ | refine QL_ret ?_ | refine QL_out (by decide) ?_ | (show Fin _ _ .ret _; exact Fin_ret (by first | (simp; done) | (simp; with_reducible rfl))) | (show Fin _ _ .normal _; exact Fin_end (by first | (simp; done) | (simp; with_reducible rfl))))
    refine made_loop l hl l.length 0 [] [] _ ?_ ?_ ?_ ?_
    · simp
    · simp
    · simp
    · simp
  have := FV_of h
  rw [madeV_eq] at this
  cases hm : made l with
  | none => rw [hm] at this; simpa [treeV] using this
  | some t => rw [hm] at this; simpa [treeV] using this

end Go.Proofs.Ytnobgooojbppbab.Need
