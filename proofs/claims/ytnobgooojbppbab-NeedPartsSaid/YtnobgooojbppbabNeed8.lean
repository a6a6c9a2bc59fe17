/- What tasks need: the parts of a need. -/
import Derived.Test.YtnobgooojbppbabNeed7
set_option linter.all false
set_option linter.unusedSimpArgs false
set_option maxRecDepth 100000
set_option maxHeartbeats 4000000
namespace Go.Proofs.Ytnobgooojbppbab.Need
open Go Go.RowKit Go.Proofs.Ytnobgooojbppbab.Lift Go.Proofs.Ytnobgooojbppbab.TND Go.Proofs.Ytnobgooojbppbab.Base Go.Proofs.Ytnobgooojbppbab.NeedPure Go.Proofs.Ytnobgooojbppbab.FlockIn Go.Proofs.Ytnobgooojbppbab.Flock

/-- A list in a list. -/
@[simp] def eP (p : List P2) : List AV := [.ro 2 (enc e2 p) false]

theorem V_size : ∀ t : Tr, (post t).length ≤ 150 → FV (F T) 67 [.ifc (ty t) (pay 199 t)] = some (.int .i64 (post t).length)
  | .leaf k, h => by
    refine FV_W T67 (r := ?r1) ?h1 ?v1
    case h1 =>
      simp only [c67, c67_b, Lift.start, ty, pay]
      repeat (first | refine W_assoc ?_ | (show W _ (.seq (.region _ _) _) _ _; refine W_reg (by simp; with_reducible rfl) ?_) | (show R _ _ _ (_ :: _) _ _ _ _; refine R_op (by simp (maxSteps := 2000000); with_reducible rfl) ?_) | (show R _ _ _ [] _ _ _ _; refine R_nil (by simp; with_reducible rfl) ?_) | (show W _ (.seq (.cond _ _ _) _) _ _; first | refine W_ct (by first | (simp; done) | fail) ?_ | refine W_cf (by first | (simp; done) | fail) ?_) | refine W_skip ?_ | refine W_bl (c := .seq _ _) ?_ | refine W_bl (c := .region _ _) ?_ | refine W_bl (c := .cond _ _ _) ?_ | refine W_bl (c := .block _ _) ?_ | refine W_rt ?_ | refine W_ex ?_ | refine W_end ?_ | refine W_tail (a := .region _ _) ?_ | refine W_tail (a := .cond _ _ _) ?_ | refine W_tail (a := .ret) ?_ | refine W_tail (a := .exit _) ?_ | refine W_tail (a := .block _ _) ?_ | refine QB_normal ?_ | refine QB_exit ?_ | refine QB_ret ?_ | refine QB_out (by decide) ?_ | refine QL_next ?_ | refine QL_exit ?_ | refine QL_ret ?_ | refine QL_out (by decide) ?_ | (show Fin _ _ .ret _; exact Fin_ret (by first | (simp [c67]; done) | (simp [c67]; with_reducible rfl))) | (show Fin _ _ .normal _; exact Fin_end (by first | (simp [c67]; done) | (simp [c67]; with_reducible rfl))))
    case v1 => simp [post]
  | .no t, h => by
    simp only [post, List.length_append, List.length_cons, List.length_nil] at h
    have ih := V_size t (by omega)
    have hd := deep_le t
    have w1 : IntKind.i64.wrap (((post t).length : Int) + 1) = (post t).length + 1 := by rw [wrap_i64 _ (by omega) (by omega)]
    rw [← fold_no t (by omega)]
    refine FV_W T67 (r := ?r2) ?h2 ?v2
    case h2 =>
      simp only [c67, c67_b, Lift.start]
      repeat (first | refine W_assoc ?_ | (show W _ (.seq (.region _ _) _) _ _; refine W_reg (by simp; with_reducible rfl) ?_) | (show R _ _ _ (_ :: _) _ _ _ _; refine R_op (by simp (maxSteps := 2000000) [ih, w1]; with_reducible rfl) ?_) | (show R _ _ _ [] _ _ _ _; refine R_nil (by simp; with_reducible rfl) ?_) | (show W _ (.seq (.cond _ _ _) _) _ _; first | refine W_ct (by first | (simp [ih, w1]; done) | fail) ?_ | refine W_cf (by first | (simp [ih, w1]; done) | fail) ?_) | refine W_skip ?_ | refine W_bl (c := .seq _ _) ?_ | refine W_bl (c := .region _ _) ?_ | refine W_bl (c := .cond _ _ _) ?_ | refine W_bl (c := .block _ _) ?_ | refine W_rt ?_ | refine W_ex ?_ | refine W_end ?_ | refine W_tail (a := .region _ _) ?_ | refine W_tail (a := .cond _ _ _) ?_ | refine W_tail (a := .ret) ?_ | refine W_tail (a := .exit _) ?_ | refine W_tail (a := .block _ _) ?_ | refine QB_normal ?_ | refine QB_exit ?_ | refine QB_ret ?_ | refine QB_out (by decide) ?_ | refine QL_next ?_ | refine QL_exit ?_ | refine QL_ret ?_ | refine QL_out (by decide) ?_ | (show Fin _ _ .ret _; exact Fin_ret (by first | (simp [c67]; done) | (simp [c67]; with_reducible rfl))) | (show Fin _ _ .normal _; exact Fin_end (by first | (simp [c67]; done) | (simp [c67]; with_reducible rfl))))
    case v2 => simp [post]
  | .two b l r, h => by
    simp only [post, List.length_append, List.length_cons, List.length_nil] at h
    have ih1 := V_size l (by omega)
    have ih2 := V_size r (by omega)
    have hd1 := deep_le l
    have hd2 := deep_le r
    have w1 : IntKind.i64.wrap (((post l).length : Int) + (post r).length) = (post l).length + (post r).length := by rw [wrap_i64 _ (by omega) (by omega)]
    have w2 : IntKind.i64.wrap (((post l).length : Int) + (post r).length + 1) = (post l).length + (post r).length + 1 := by rw [wrap_i64 _ (by omega) (by omega)]
    rw [← fold_two b l r (by omega) (by omega)]
    refine FV_W T67 (r := ?r3) ?h3 ?v3
    case h3 =>
      simp only [c67, c67_b, Lift.start]
      repeat (first | refine W_assoc ?_ | (show W _ (.seq (.region _ _) _) _ _; refine W_reg (by simp; with_reducible rfl) ?_) | (show R _ _ _ (_ :: _) _ _ _ _; refine R_op (by simp (maxSteps := 2000000) [ih1, ih2, w1, w2]; with_reducible rfl) ?_) | (show R _ _ _ [] _ _ _ _; refine R_nil (by simp; with_reducible rfl) ?_) | (show W _ (.seq (.cond _ _ _) _) _ _; first | refine W_ct (by first | (simp [ih1, ih2, w1, w2]; done) | fail) ?_ | refine W_cf (by first | (simp [ih1, ih2, w1, w2]; done) | fail) ?_) | refine W_skip ?_ | refine W_bl (c := .seq _ _) ?_ | refine W_bl (c := .region _ _) ?_ | refine W_bl (c := .cond _ _ _) ?_ | refine W_bl (c := .block _ _) ?_ | refine W_rt ?_ | refine W_ex ?_ | refine W_end ?_ | refine W_tail (a := .region _ _) ?_ | refine W_tail (a := .cond _ _ _) ?_ | refine W_tail (a := .ret) ?_ | refine W_tail (a := .exit _) ?_ | refine W_tail (a := .block _ _) ?_ | refine QB_normal ?_ | refine QB_exit ?_ | refine QB_ret ?_ | refine QB_out (by decide) ?_ | refine QL_next ?_ | refine QL_exit ?_ | refine QL_ret ?_ | refine QL_out (by decide) ?_ | (show Fin _ _ .ret _; exact Fin_ret (by first | (simp [c67]; done) | (simp [c67]; with_reducible rfl))) | (show Fin _ _ .normal _; exact Fin_end (by first | (simp [c67]; done) | (simp [c67]; with_reducible rfl))))
    case v3 => simp [post]; omega

theorem V_copied (l : List P2) (hl : l.length ≤ 100000) : FV (F T) 68 [.ro 2 (enc e2 l) false] = some (.ro 2 (enc e2 l) false) := by
  have hb : l.length * 16 ≤ 140737488355328 := by omega
  have hb2 : l.length ≤ 140737488355328 := by omega
  refine FV_W T68 (r := ?r1) ?h1 ?v1
  case h1 =>
    simp only [c68, c68_b, Lift.start]
    repeat (first | refine W_assoc ?_ | (show W _ (.seq (.region _ _) _) _ _; refine W_reg (by simp; with_reducible rfl) ?_) | (show R _ _ _ (_ :: _) _ _ _ _; refine R_op (by simp (maxSteps := 2000000) [hb, hb2]; with_reducible rfl) ?_) | (show R _ _ _ [] _ _ _ _; refine R_nil (by simp; with_reducible rfl) ?_) | (show W _ (.seq (.cond _ _ _) _) _ _; first | refine W_ct (by first | (simp [hb, hb2]; done) | fail) ?_ | refine W_cf (by first | (simp [hb, hb2]; done) | fail) ?_) | refine W_skip ?_ | refine W_bl (c := .seq _ _) ?_ | refine W_bl (c := .region _ _) ?_ | refine W_bl (c := .cond _ _ _) ?_ | refine W_bl (c := .block _ _) ?_ | refine W_rt ?_ | refine W_ex ?_ | refine W_end ?_ | refine W_tail (a := .region _ _) ?_ | refine W_tail (a := .cond _ _ _) ?_ | refine W_tail (a := .ret) ?_ | refine W_tail (a := .exit _) ?_ | refine W_tail (a := .block _ _) ?_ | refine QB_normal ?_ | refine QB_exit ?_ | refine QB_ret ?_ | refine QB_out (by decide) ?_ | refine QL_next ?_ | refine QL_exit ?_ | refine QL_ret ?_ | refine QL_out (by decide) ?_ | (show Fin _ _ .ret _; exact Fin_ret (by first | (simp [c68]; done) | (simp [c68]; with_reducible rfl))) | (show Fin _ _ .normal _; exact Fin_end (by first | (simp [c68]; done) | (simp [c68]; with_reducible rfl))))
  case v1 => simp

/-- The parts of a tree, as lists. -/
def partsT : Option Tr → List (List P2)
  | some (.no t) => [post t]
  | some (.two _ l r) => [post l, post r]
  | _ => []

theorem V_Parts (l : List P2) (hl : l.length ≤ 100) : ∃ v, FV (F T) 23 [.ro 2 (enc e2 l) false] = some v ∧ (v = .ro 1 (enc eP (partsT (tree l))) false) := by
  refine ⟨_, ?_, rfl⟩
  have v1 := V_check l hl
  have v2 := V_made l hl
  by_cases h0 : chk l = 0
  · obtain ⟨t, h1, h2⟩ := tree_some h0
    obtain ⟨hp, hg⟩ := made_post h1
    rw [h0] at v1
    rw [h1] at v2
    rw [h2]
    simp only [treeV] at v2
    cases t with
    | leaf k =>
      simp only [ty, pay] at v2
      refine FV_W T23 (r := ?r1) ?h1 ?v1
      case h1 =>
        simp only [c23, c23_b, Lift.start]
        repeat (first | refine W_assoc ?_ | (show W _ (.seq (.region _ _) _) _ _; refine W_reg (by simp; with_reducible rfl) ?_) | (show R _ _ _ (_ :: _) _ _ _ _; refine R_op (by simp (maxSteps := 2000000) [v1, v2]; with_reducible rfl) ?_) | (show R _ _ _ [] _ _ _ _; refine R_nil (by simp; with_reducible rfl) ?_) | (show W _ (.seq (.cond _ _ _) _) _ _; first | refine W_ct (by first | (simp [v1, v2]; done) | fail) ?_ | refine W_cf (by first | (simp [v1, v2]; done) | fail) ?_) | refine W_skip ?_ | refine W_bl (c := .seq _ _) ?_ | refine W_bl (c := .region _ _) ?_ | refine W_bl (c := .cond _ _ _) ?_ | refine W_bl (c := .block _ _) ?_ | refine W_rt ?_ | refine W_ex ?_ | refine W_end ?_ | refine W_tail (a := .region _ _) ?_ | refine W_tail (a := .cond _ _ _) ?_ | refine W_tail (a := .ret) ?_ | refine W_tail (a := .exit _) ?_ | refine W_tail (a := .block _ _) ?_ | refine QB_normal ?_ | refine QB_exit ?_ | refine QB_ret ?_ | refine QB_out (by decide) ?_ | refine QL_next ?_ | refine QL_exit ?_ | refine QL_ret ?_ | refine QL_out (by decide) ?_ | (show Fin _ _ .ret _; exact Fin_ret (by first | (simp [c23]; done) | (simp [c23]; with_reducible rfl))) | (show Fin _ _ .normal _; exact Fin_end (by first | (simp [c23]; done) | (simp [c23]; with_reducible rfl))))
      case v1 => simp [partsT]
    | no t =>
      have hd := deep_le t
      simp only [post] at hp
      have hlen : l.length = (post t).length + 1 := by rw [hp]; simp
      rw [← fold_no t (by omega)] at v2
      have w1 : IntKind.i64.wrap ((l.length : Int) - 1) = (l.length : Int) - 1 := by rw [wrap_i64 _ (by omega) (by omega)]
      have v3 := V_copied (post t) (by omega)
      have ht : l.take (l.length - 1) = post t := by rw [hlen, hp]; simp
      have k1 : (1 : Int) ≤ l.length := by omega
      have k2 : (l.length : Int) - 1 ≤ l.length := by omega
      refine FV_W T23 (r := ?r2) ?h2 ?v2
      case h2 =>
        simp only [c23, c23_b, Lift.start]
        repeat (first | refine W_assoc ?_ | (show W _ (.seq (.region _ _) _) _ _; refine W_reg (by simp; with_reducible rfl) ?_) | (show R _ _ _ (_ :: _) _ _ _ _; refine R_op (by simp (maxSteps := 2000000) [v1, v2, v3, w1, ht, k1, k2]; with_reducible rfl) ?_) | (show R _ _ _ [] _ _ _ _; refine R_nil (by simp; with_reducible rfl) ?_) | (show W _ (.seq (.cond _ _ _) _) _ _; first | refine W_ct (by first | (simp [v1, v2, v3, w1, ht, k1, k2]; done) | fail) ?_ | refine W_cf (by first | (simp [v1, v2, v3, w1, ht, k1, k2]; done) | fail) ?_) | refine W_skip ?_ | refine W_bl (c := .seq _ _) ?_ | refine W_bl (c := .region _ _) ?_ | refine W_bl (c := .cond _ _ _) ?_ | refine W_bl (c := .block _ _) ?_ | refine W_rt ?_ | refine W_ex ?_ | refine W_end ?_ | refine W_tail (a := .region _ _) ?_ | refine W_tail (a := .cond _ _ _) ?_ | refine W_tail (a := .ret) ?_ | refine W_tail (a := .exit _) ?_ | refine W_tail (a := .block _ _) ?_ | refine QB_normal ?_ | refine QB_exit ?_ | refine QB_ret ?_ | refine QB_out (by decide) ?_ | refine QL_next ?_ | refine QL_exit ?_ | refine QL_ret ?_ | refine QL_out (by decide) ?_ | (show Fin _ _ .ret _; exact Fin_ret (by first | (simp [c23]; done) | (simp [c23]; with_reducible rfl))) | (show Fin _ _ .normal _; exact Fin_end (by first | (simp [c23]; done) | (simp [c23]; with_reducible rfl))))
      case v2 => simp [partsT]; rfl
    | two b a c =>
      simp only [post] at hp
      have hd1 := deep_le a
      have hd2 := deep_le c
      have hlen : l.length = (post a).length + (post c).length + 1 := by rw [hp]; simp; omega
      have ha : l.take (post a).length = post a := by rw [hp, List.append_assoc]; exact List.take_left' rfl
      have hcc : (l.take (l.length - 1)).drop (post a).length = post c := by
        rw [show l.length - 1 = (post a ++ post c).length by simp; omega, hp, List.take_left' rfl, List.drop_left' rfl]
      have k1 : (1 : Int) ≤ l.length := by omega
      have k2 : (l.length : Int) - 1 ≤ l.length := by omega
      have k3 : (post a).length ≤ l.length := by omega
      have k4 : ((post a).length : Int) ≤ (l.length : Int) - 1 := by omega
      have k5 : ((post a).length : Int) ≤ (l.length : Int) := by omega
      rw [← fold_two b a c (by omega) (by omega)] at v2
      have w1 : IntKind.i64.wrap ((l.length : Int) - 1) = (l.length : Int) - 1 := by rw [wrap_i64 _ (by omega) (by omega)]
      have v3 := V_copied (post a) (by omega)
      have v4 := V_copied (post c) (by omega)
      have v5 := V_size a (by omega)
      refine FV_W T23 (r := ?r3) ?h3 ?v3
      case h3 =>
        simp only [c23, c23_b, Lift.start]
        repeat (first | refine W_assoc ?_ | (show W _ (.seq (.region _ _) _) _ _; refine W_reg (by simp; with_reducible rfl) ?_) | (show R _ _ _ (_ :: _) _ _ _ _; refine R_op (by simp (maxSteps := 2000000) [v1, v2, v3, v4, v5, w1, ha, hcc, k1, k2, k3, k4, k5]; with_reducible rfl) ?_) | (show R _ _ _ [] _ _ _ _; refine R_nil (by simp; with_reducible rfl) ?_) | (show W _ (.seq (.cond _ _ _) _) _ _; first | refine W_ct (by first | (simp [v1, v2, v3, v4, v5, w1, ha, hcc, k1, k2, k3, k4, k5]; done) | fail) ?_ | refine W_cf (by first | (simp [v1, v2, v3, v4, v5, w1, ha, hcc, k1, k2, k3, k4, k5]; done) | fail) ?_) | refine W_skip ?_ | refine W_bl (c := .seq _ _) ?_ | refine W_bl (c := .region _ _) ?_ | refine W_bl (c := .cond _ _ _) ?_ | refine W_bl (c := .block _ _) ?_ | refine W_rt ?_ | refine W_ex ?_ | refine W_end ?_ | refine W_tail (a := .region _ _) ?_ | refine W_tail (a := .cond _ _ _) ?_ | refine W_tail (a := .ret) ?_ | refine W_tail (a := .exit _) ?_ | refine W_tail (a := .block _ _) ?_ | refine QB_normal ?_ | refine QB_exit ?_ | refine QB_ret ?_ | refine QB_out (by decide) ?_ | refine QL_next ?_ | refine QL_exit ?_ | refine QL_ret ?_ | refine QL_out (by decide) ?_ | (show Fin _ _ .ret _; exact Fin_ret (by first | (simp [c23]; done) | (simp [c23]; with_reducible rfl))) | (show Fin _ _ .normal _; exact Fin_end (by first | (simp [c23]; done) | (simp [c23]; with_reducible rfl))))
      case v3 => simp [partsT]; rfl
  · rw [tree_none h0]
    refine FV_W T23 (r := ?r4) ?h4 ?v4
    case h4 =>
      simp only [c23, c23_b, Lift.start]
      repeat (first | refine W_assoc ?_ | (show W _ (.seq (.region _ _) _) _ _; refine W_reg (by simp; with_reducible rfl) ?_) | (show R _ _ _ (_ :: _) _ _ _ _; refine R_op (by simp (maxSteps := 2000000) [v1, h0]; with_reducible rfl) ?_) | (show R _ _ _ [] _ _ _ _; refine R_nil (by simp; with_reducible rfl) ?_) | (show W _ (.seq (.cond _ _ _) _) _ _; first | refine W_ct (by first | (simp [v1, h0]; done) | fail) ?_ | refine W_cf (by first | (simp [v1, h0]; done) | fail) ?_) | refine W_skip ?_ | refine W_bl (c := .seq _ _) ?_ | refine W_bl (c := .region _ _) ?_ | refine W_bl (c := .cond _ _ _) ?_ | refine W_bl (c := .block _ _) ?_ | refine W_rt ?_ | refine W_ex ?_ | refine W_end ?_ | refine W_tail (a := .region _ _) ?_ | refine W_tail (a := .cond _ _ _) ?_ | refine W_tail (a := .ret) ?_ | refine W_tail (a := .exit _) ?_ | refine W_tail (a := .block _ _) ?_ | refine QB_normal ?_ | refine QB_exit ?_ | refine QB_ret ?_ | refine QB_out (by decide) ?_ | refine QL_next ?_ | refine QL_exit ?_ | refine QL_ret ?_ | refine QL_out (by decide) ?_ | (show Fin _ _ .ret _; exact Fin_ret (by first | (simp [c23]; done) | (simp [c23]; with_reducible rfl))) | (show Fin _ _ .normal _; exact Fin_end (by first | (simp [c23]; done) | (simp [c23]; with_reducible rfl))))
    case v4 => simp [partsT]

theorem V_R09parts (l : List P2) (hl : l.length ≤ 100) : FV (F T) 27 [.ro 2 (enc e2 l) false] = some (.ro 1 (enc eP (partsT (tree l))) false) := by
  have v1 := V_R09check l hl
  by_cases h0 : chk l = 0
  · obtain ⟨t, h1, h2⟩ := tree_some h0
    obtain ⟨hp, hg⟩ := made_post h1
    rw [h0] at v1
    rw [h2]
    have hpos : 0 < l.length := by rw [hp]; exact post_pos t
    have hlt : l.length - 1 < l.length := by omega
    have w1 : IntKind.i64.wrap ((l.length : Int) - 1) = ((l.length - 1 : Nat) : Int) := by rw [wrap_i64 _ (by omega) (by omega)]; omega
    have k2 : l.length - 1 ≤ l.length := by omega
    cases t with
    | leaf k =>
      simp [good] at hg
      have v3 := V_parts0 k.1
      rw [hg.2] at v3
      have hx : l[l.length - 1] = k := by simp [hp, post]
      have hx2 : (l[l.length - 1]).1 = k.1 := by rw [hx]
      generalize l.length - 1 = p at *
      refine FV_W T27 (r := ?r1) ?h1 ?v1
      case h1 =>
        simp only [c27, c27_b, Lift.start]
        repeat (first | refine W_assoc ?_ | (show W _ (.seq (.region _ _) _) _ _; refine W_reg (by simp; with_reducible rfl) ?_) | (show R _ _ _ (_ :: _) _ _ _ _; refine R_op (by simp (maxSteps := 2000000) [v1, v3, w1, hlt, hx2]; with_reducible rfl) ?_) | (show R _ _ _ [] _ _ _ _; refine R_nil (by simp; with_reducible rfl) ?_) | (show W _ (.seq (.cond _ _ _) _) _ _; first | refine W_ct (by first | (simp [v1, v3, w1, hlt, hx2]; done) | fail) ?_ | refine W_cf (by first | (simp [v1, v3, w1, hlt, hx2]; done) | fail) ?_) | refine W_skip ?_ | refine W_bl (c := .seq _ _) ?_ | refine W_bl (c := .region _ _) ?_ | refine W_bl (c := .cond _ _ _) ?_ | refine W_bl (c := .block _ _) ?_ | refine W_rt ?_ | refine W_ex ?_ | refine W_end ?_ | refine W_tail (a := .region _ _) ?_ | refine W_tail (a := .cond _ _ _) ?_ | refine W_tail (a := .ret) ?_ | refine W_tail (a := .exit _) ?_ | refine W_tail (a := .block _ _) ?_ | refine QB_normal ?_ | refine QB_exit ?_ | refine QB_ret ?_ | refine QB_out (by decide) ?_ | refine QL_next ?_ | refine QL_exit ?_ | refine QL_ret ?_ | refine QL_out (by decide) ?_ | (show Fin _ _ .ret _; exact Fin_ret (by first | (simp [c27]; done) | (simp [c27]; with_reducible rfl))) | (show Fin _ _ .normal _; exact Fin_end (by first | (simp [c27]; done) | (simp [c27]; with_reducible rfl))))
      case v1 => simp [partsT]
    | no t =>
      simp only [post] at hp
      have hlen : l.length = (post t).length + 1 := by rw [hp]; simp
      have ht : l.take (l.length - 1) = post t := by rw [hlen, hp]; simp
      have v3 := V_parts0 3
      rw [show parts 3 = 1 from rfl] at v3
      have hx : (l[l.length - 1]).1 = 3 := by simp [hp]
      have k1 : ((l.length - 1 : Nat) : Int) ≤ l.length := by omega
      generalize l.length - 1 = p at *
      refine FV_W T27 (r := ?r2) ?h2 ?v2
      case h2 =>
        simp only [c27, c27_b, Lift.start]
        repeat (first | refine W_assoc ?_ | (show W _ (.seq (.region _ _) _) _ _; refine W_reg (by simp; with_reducible rfl) ?_) | (show R _ _ _ (_ :: _) _ _ _ _; refine R_op (by simp (maxSteps := 2000000) [v1, v3, w1, hlt, hx, ht, k1, k2]; with_reducible rfl) ?_) | (show R _ _ _ [] _ _ _ _; refine R_nil (by simp; with_reducible rfl) ?_) | (show W _ (.seq (.cond _ _ _) _) _ _; first | refine W_ct (by first | (simp [v1, v3, w1, hlt, hx, ht, k1, k2]; done) | fail) ?_ | refine W_cf (by first | (simp [v1, v3, w1, hlt, hx, ht, k1, k2]; done) | fail) ?_) | refine W_skip ?_ | refine W_bl (c := .seq _ _) ?_ | refine W_bl (c := .region _ _) ?_ | refine W_bl (c := .cond _ _ _) ?_ | refine W_bl (c := .block _ _) ?_ | refine W_rt ?_ | refine W_ex ?_ | refine W_end ?_ | refine W_tail (a := .region _ _) ?_ | refine W_tail (a := .cond _ _ _) ?_ | refine W_tail (a := .ret) ?_ | refine W_tail (a := .exit _) ?_ | refine W_tail (a := .block _ _) ?_ | refine QB_normal ?_ | refine QB_exit ?_ | refine QB_ret ?_ | refine QB_out (by decide) ?_ | refine QL_next ?_ | refine QL_exit ?_ | refine QL_ret ?_ | refine QL_out (by decide) ?_ | (show Fin _ _ .ret _; exact Fin_ret (by first | (simp [c27]; done) | (simp [c27]; with_reducible rfl))) | (show Fin _ _ .normal _; exact Fin_end (by first | (simp [c27]; done) | (simp [c27]; with_reducible rfl))))
      case v2 => simp [partsT]; rfl
    | two b a c =>
      simp [good] at hg
      simp only [post] at hp
      have hlen : l.length = (post a).length + (post c).length + 1 := by rw [hp]; simp; omega
      have ha : l.take (post a).length = post a := by rw [hp, List.append_assoc]; exact List.take_left' rfl
      have htk : l.take (l.length - 1) = post a ++ post c := by
        rw [show l.length - 1 = (post a ++ post c).length by simp; omega, hp, List.take_left' rfl]
      have hcc : (l.take (l.length - 1)).drop (post a).length = post c := by
        rw [htk, List.drop_left' rfl]
      have hb := beg_at l (l.length - 1) (by omega) (post a) c hg.2 htk
      have vb := V_begin l (by omega) (l.length - 1) (by omega)
      rw [hb] at vb
      have v3 := V_parts0 (if b = true then 5 else 4)
      rw [show parts (if b = true then 5 else 4) = 2 by cases b <;> rfl] at v3
      have hx : (l[l.length - 1]).1 = (if b = true then 5 else 4) := by simp [hp]
      have w2 : IntKind.i64.wrap (((l.length - 1 : Nat) : Int) - 1) = ((l.length - 1 : Nat) : Int) - 1 := by rw [wrap_i64 _ (by omega) (by omega)]
      have k3 : (post a).length ≤ l.length := by omega
      have k4 : (post a).length ≤ l.length - 1 := by omega
      have k1 : ((l.length - 1 : Nat) : Int) ≤ l.length := by omega
      have k5 : ((post a).length : Int) ≤ (l.length : Int) := by omega
      have k6 : ((post a).length : Int) ≤ ((l.length - 1 : Nat) : Int) := by omega
      generalize l.length - 1 = p at *
      generalize (if b = true then (5 : Int) else 4) = o at *
      refine FV_W T27 (r := ?r3) ?h3 ?v3
      case h3 =>
        simp only [c27, c27_b, Lift.start]
        repeat (first | refine W_assoc ?_ | (show W _ (.seq (.region _ _) _) _ _; refine W_reg (by simp; with_reducible rfl) ?_) | (show R _ _ _ (_ :: _) _ _ _ _; refine R_op (by simp (maxSteps := 2000000) [v1, v3, w1, w2, hlt, hx, ha, hcc, vb, k1, k2, k3, k4, k5, k6]; with_reducible rfl) ?_) | (show R _ _ _ [] _ _ _ _; refine R_nil (by simp; with_reducible rfl) ?_) | (show W _ (.seq (.cond _ _ _) _) _ _; first | refine W_ct (by first | (simp [v1, v3, w1, w2, hlt, hx, ha, hcc, vb, k1, k2, k3, k4, k5, k6]; done) | fail) ?_ | refine W_cf (by first | (simp [v1, v3, w1, w2, hlt, hx, ha, hcc, vb, k1, k2, k3, k4, k5, k6]; done) | fail) ?_) | refine W_skip ?_ | refine W_bl (c := .seq _ _) ?_ | refine W_bl (c := .region _ _) ?_ | refine W_bl (c := .cond _ _ _) ?_ | refine W_bl (c := .block _ _) ?_ | refine W_rt ?_ | refine W_ex ?_ | refine W_end ?_ | refine W_tail (a := .region _ _) ?_ | refine W_tail (a := .cond _ _ _) ?_ | refine W_tail (a := .ret) ?_ | refine W_tail (a := .exit _) ?_ | refine W_tail (a := .block _ _) ?_ | refine QB_normal ?_ | refine QB_exit ?_ | refine QB_ret ?_ | refine QB_out (by decide) ?_ | refine QL_next ?_ | refine QL_exit ?_ | refine QL_ret ?_ | refine QL_out (by decide) ?_ | (show Fin _ _ .ret _; exact Fin_ret (by first | (simp [c27]; done) | (simp [c27]; with_reducible rfl))) | (show Fin _ _ .normal _; exact Fin_end (by first | (simp [c27]; done) | (simp [c27]; with_reducible rfl))))
      case v3 => simp [partsT]; rfl
  · rw [tree_none h0]
    refine FV_W T27 (r := ?r4) ?h4 ?v4
    case h4 =>
      simp only [c27, c27_b, Lift.start]
      repeat (first | refine W_assoc ?_ | (show W _ (.seq (.region _ _) _) _ _; refine W_reg (by simp; with_reducible rfl) ?_) | (show R _ _ _ (_ :: _) _ _ _ _; refine R_op (by simp (maxSteps := 2000000) [v1, h0]; with_reducible rfl) ?_) | (show R _ _ _ [] _ _ _ _; refine R_nil (by simp; with_reducible rfl) ?_) | (show W _ (.seq (.cond _ _ _) _) _ _; first | refine W_ct (by first | (simp [v1, h0]; done) | fail) ?_ | refine W_cf (by first | (simp [v1, h0]; done) | fail) ?_) | refine W_skip ?_ | refine W_bl (c := .seq _ _) ?_ | refine W_bl (c := .region _ _) ?_ | refine W_bl (c := .cond _ _ _) ?_ | refine W_bl (c := .block _ _) ?_ | refine W_rt ?_ | refine W_ex ?_ | refine W_end ?_ | refine W_tail (a := .region _ _) ?_ | refine W_tail (a := .cond _ _ _) ?_ | refine W_tail (a := .ret) ?_ | refine W_tail (a := .exit _) ?_ | refine W_tail (a := .block _ _) ?_ | refine QB_normal ?_ | refine QB_exit ?_ | refine QB_ret ?_ | refine QB_out (by decide) ?_ | refine QL_next ?_ | refine QL_exit ?_ | refine QL_ret ?_ | refine QL_out (by decide) ?_ | (show Fin _ _ .ret _; exact Fin_ret (by first | (simp [c27]; done) | (simp [c27]; with_reducible rfl))) | (show Fin _ _ .normal _; exact Fin_end (by first | (simp [c27]; done) | (simp [c27]; with_reducible rfl))))
    case v4 => simp [partsT]

theorem lists_loop (a b : List (List P2)) (hl : a.length ≤ 1000) (hab : a.length = b.length) (ha : ∀ q ∈ a, q.length ≤ 1000000) (hb : ∀ q ∈ b, q.length ≤ 1000000) :
    ∀ (n i : Nat) (st : ASt), i + n = a.length → canon [0, 1, 5] st = ⟨[.ro 1 (enc eP a) false, .ro 1 (enc eP b) false, .top, .top, .top, .int .i64 i, .top, .top, .top, .top, .top, .top, .top, .top, .top, .top, .top, .top, .top, .top, .top, .top, .top, .top, .top, .top, .top], [], 0, 0⟩ →
      W T c22_k0 st (Lift.Fin c22 (.bool (decide (a.drop i = b.drop i)), [])) := by
  intro n
  induction n with
  | zero =>
    intro i st hi hc
    have h1 : ¬ i < a.length := by omega
    have e1 : a.drop i = [] := List.drop_of_length_le (by omega)
    have e2 : b.drop i = [] := List.drop_of_length_le (by omega)
    unfold c22_k0
    refine W_round hc ?_
    unfold c22_l0
    repeat (first | refine W_assoc ?_ | (show W _ (.seq (.region _ _) _) _ _; refine W_reg (by simp; with_reducible rfl) ?_) | (show R _ _ _ (_ :: _) _ _ _ _; refine R_op (by simp (maxSteps := 2000000) [h1]; with_reducible rfl) ?_) | (show R _ _ _ [] _ _ _ _; refine R_nil (by simp; with_reducible rfl) ?_) | (show W _ (.seq (.cond _ _ _) _) _ _; first | refine W_ct (by first | (simp [h1]; done) | fail) ?_ | refine W_cf (by first | (simp [h1]; done) | fail) ?_) | refine W_skip ?_ | refine W_bl (c := .seq _ _) ?_ | refine W_bl (c := .region _ _) ?_ | refine W_bl (c := .cond _ _ _) ?_ | refine W_bl (c := .block _ _) ?_ | refine W_rt ?_ | refine W_ex ?_ | refine W_end ?_ | refine W_tail (a := .region _ _) ?_ | refine W_tail (a := .cond _ _ _) ?_ | refine W_tail (a := .ret) ?_ | refine W_tail (a := .exit _) ?_ | refine W_tail (a := .block _ _) ?_ | refine QB_normal ?_ | refine QB_exit ?_ | refine QB_ret ?_ | refine QB_out (by decide) ?_ | refine QL_next ?_ | refine QL_exit ?_ | refine QL_ret ?_ | refine QL_out (by decide) ?_ | (show Fin _ _ .ret _; exact Fin_ret (by first | (simp [c22, e1, e2]; done) | (simp [c22, e1, e2]; with_reducible rfl))) | (show Fin _ _ .normal _; exact Fin_end (by first | (simp [c22, e1, e2]; done) | (simp [c22, e1, e2]; with_reducible rfl))))
  | succ n ih =>
    intro i st hi hc
    have hlt : i < a.length := by omega
    have hlt2 : i < b.length := by omega
    have hw := wrapS i _ hlt (by omega)
    have v1 := FV_of (F_R09_Same a[i] b[i] (ha _ (List.getElem_mem hlt)) (hb _ (List.getElem_mem hlt2)))
    simp at v1
    rw [List.drop_eq_getElem_cons hlt, List.drop_eq_getElem_cons hlt2]
    unfold c22_k0
    refine W_round hc ?_
    unfold c22_l0
    by_cases he : a[i] = b[i]
    · rw [he]
      simp only [List.cons.injEq, true_and]
      simp only [he, decide_true] at v1
      repeat (first | refine W_assoc ?_ | (show W _ (.seq (.region _ _) _) _ _; refine W_reg (by simp; with_reducible rfl) ?_) | (show R _ _ _ (_ :: _) _ _ _ _; refine R_op (by simp (maxSteps := 2000000) [hlt, hlt2, hw, he, v1]; with_reducible rfl) ?_) | (show R _ _ _ [] _ _ _ _; refine R_nil (by simp; with_reducible rfl) ?_) | (show W _ (.seq (.cond _ _ _) _) _ _; first | refine W_ct (by first | (simp [hlt, hlt2, hw, he, v1]; done) | fail) ?_ | refine W_cf (by first | (simp [hlt, hlt2, hw, he, v1]; done) | fail) ?_) | refine W_skip ?_ | refine W_bl (c := .seq _ _) ?_ | refine W_bl (c := .region _ _) ?_ | refine W_bl (c := .cond _ _ _) ?_ | refine W_bl (c := .block _ _) ?_ | refine W_rt ?_ | refine W_ex ?_ | refine W_end ?_ | refine W_tail (a := .region _ _) ?_ | refine W_tail (a := .cond _ _ _) ?_ | refine W_tail (a := .ret) ?_ | refine W_tail (a := .exit _) ?_ | refine W_tail (a := .block _ _) ?_ | refine QB_normal ?_ | refine QB_exit ?_ | refine QB_ret ?_ | refine QB_out (by decide) ?_ | refine QL_next ?_ | refine QL_exit ?_ | refine QL_ret ?_ | refine QL_out (by decide) ?_ | (show Fin _ _ .ret _; exact Fin_ret (by first | (simp; done) | (simp; with_reducible rfl))) | (show Fin _ _ .normal _; exact Fin_end (by first | (simp; done) | (simp; with_reducible rfl))))
      refine ih (i + 1) _ ?_ ?_
      · omega
      · simp
    · simp only [he, decide_false] at v1
      have hd : decide (a[i] :: a.drop (i + 1) = b[i] :: b.drop (i + 1)) = false := by
        rw [decide_eq_false_iff_not]; intro e; injection e with e _; exact he e
      rw [hd]
      repeat (first | refine W_assoc ?_ | (show W _ (.seq (.region _ _) _) _ _; refine W_reg (by simp; with_reducible rfl) ?_) | (show R _ _ _ (_ :: _) _ _ _ _; refine R_op (by simp (maxSteps := 2000000) [hlt, hlt2, hw, he, v1]; with_reducible rfl) ?_) | (show R _ _ _ [] _ _ _ _; refine R_nil (by simp; with_reducible rfl) ?_) | (show W _ (.seq (.cond _ _ _) _) _ _; first | refine W_ct (by first | (simp [hlt, hlt2, hw, he, v1]; done) | fail) ?_ | refine W_cf (by first | (simp [hlt, hlt2, hw, he, v1]; done) | fail) ?_) | refine W_skip ?_ | refine W_bl (c := .seq _ _) ?_ | refine W_bl (c := .region _ _) ?_ | refine W_bl (c := .cond _ _ _) ?_ | refine W_bl (c := .block _ _) ?_ | refine W_rt ?_ | refine W_ex ?_ | refine W_end ?_ | refine W_tail (a := .region _ _) ?_ | refine W_tail (a := .cond _ _ _) ?_ | refine W_tail (a := .ret) ?_ | refine W_tail (a := .exit _) ?_ | refine W_tail (a := .block _ _) ?_ | refine QB_normal ?_ | refine QB_exit ?_ | refine QB_ret ?_ | refine QB_out (by decide) ?_ | refine QL_next ?_ | refine QL_exit ?_ | refine QL_ret ?_ | refine QL_out (by decide) ?_ | (show Fin _ _ .ret _; exact Fin_ret (by first | (simp [c22]; done) | (simp [c22]; with_reducible rfl))) | (show Fin _ _ .normal _; exact Fin_end (by first | (simp [c22]; done) | (simp [c22]; with_reducible rfl))))

theorem F_lists (a b : List (List P2)) (hl : a.length ≤ 1000) (ha : ∀ q ∈ a, q.length ≤ 1000000) (hb : ∀ q ∈ b, q.length ≤ 1000000) :
    F T 22 [.ro 1 (enc eP a) false, .ro 1 (enc eP b) false] [] = some (.bool (decide (a = b)), []) := by
  refine F_W T22 ?_
  simp only [c22, c22_b, Lift.start]
  by_cases h : a.length = b.length
  · repeat (first | refine W_assoc ?_ | (show W _ (.seq (.region _ _) _) _ _; refine W_reg (by simp; with_reducible rfl) ?_) | (show R _ _ _ (_ :: _) _ _ _ _; refine R_op (by simp (maxSteps := 2000000) [h]; with_reducible rfl) ?_) | (show R _ _ _ [] _ _ _ _; refine R_nil (by simp; with_reducible rfl) ?_) | (show W _ (.seq (.cond _ _ _) _) _ _; first | refine W_ct (by first | (simp [h]; done) | fail) ?_ | refine W_cf (by first | (simp [h]; done) | fail) ?_) | refine W_skip ?_ | refine W_bl (c := .seq _ _) ?_ | refine W_bl (c := .region _ _) ?_ | refine W_bl (c := .cond _ _ _) ?_ | refine W_bl (c := .block _ _) ?_ | refine W_rt ?_ | refine W_ex ?_ | refine W_end ?_ | refine W_tail (a := .region _ _) ?_ | refine W_tail (a := .cond _ _ _) ?_ | refine W_tail (a := .ret) ?_ | refine W_tail (a := .exit _) ?_ | refine W_tail (a := .block _ _) ?_ | refine QB_normal ?_ | refine QB_exit ?_ | refine QB_ret ?_ | refine QB_out (by decide) ?_ | refine QL_next ?_ | refine QL_exit ?_ | refine QL_ret ?_ | refine QL_out (by decide) ?_ | (show Fin _ _ .ret _; exact Fin_ret (by first | (simp; done) | (simp; with_reducible rfl))) | (show Fin _ _ .normal _; exact Fin_end (by first | (simp; done) | (simp; with_reducible rfl))))
    have := lists_loop a b hl h ha hb a.length 0
    simp only [List.drop_zero] at this
    refine this _ ?_ ?_
    · omega
    · simp
  · have h2 : ¬ (a.length : Int) = b.length := by omega
    have h3 : a ≠ b := fun e => h (by rw [e])
    repeat (first | refine W_assoc ?_ | (show W _ (.seq (.region _ _) _) _ _; refine W_reg (by simp; with_reducible rfl) ?_) | (show R _ _ _ (_ :: _) _ _ _ _; refine R_op (by simp (maxSteps := 2000000) [h, h2]; with_reducible rfl) ?_) | (show R _ _ _ [] _ _ _ _; refine R_nil (by simp; with_reducible rfl) ?_) | (show W _ (.seq (.cond _ _ _) _) _ _; first | refine W_ct (by first | (simp [h, h2]; done) | fail) ?_ | refine W_cf (by first | (simp [h, h2]; done) | fail) ?_) | refine W_skip ?_ | refine W_bl (c := .seq _ _) ?_ | refine W_bl (c := .region _ _) ?_ | refine W_bl (c := .cond _ _ _) ?_ | refine W_bl (c := .block _ _) ?_ | refine W_rt ?_ | refine W_ex ?_ | refine W_end ?_ | refine W_tail (a := .region _ _) ?_ | refine W_tail (a := .cond _ _ _) ?_ | refine W_tail (a := .ret) ?_ | refine W_tail (a := .exit _) ?_ | refine W_tail (a := .block _ _) ?_ | refine QB_normal ?_ | refine QB_exit ?_ | refine QB_ret ?_ | refine QB_out (by decide) ?_ | refine QL_next ?_ | refine QL_exit ?_ | refine QL_ret ?_ | refine QL_out (by decide) ?_ | (show Fin _ _ .ret _; exact Fin_ret (by first | (simp [c22, h3]; done) | (simp [c22, h3]; with_reducible rfl))) | (show Fin _ _ .normal _; exact Fin_end (by first | (simp [c22, h3]; done) | (simp [c22, h3]; with_reducible rfl))))

theorem parts_len (l : List P2) (hl : l.length ≤ 100) : (partsT (tree l)).length ≤ 2 ∧ ∀ q ∈ partsT (tree l), q.length ≤ 1000000 := by
  cases ht : tree l with
  | none => simp [partsT]
  | some t =>
    have hm : made l = some t := by
      unfold tree at ht
      split at ht
      · exact ht
      · cases ht
    obtain ⟨hp, hg⟩ := made_post hm
    have hlen := congrArg List.length hp
    cases t with
    | leaf k => simp [partsT]
    | no t =>
      simp [post] at hlen
      refine ⟨by simp [partsT], fun q hq => ?_⟩
      simp [partsT] at hq
      subst hq; omega
    | two b a c =>
      simp [post] at hlen
      refine ⟨by simp [partsT], fun q hq => ?_⟩
      simp [partsT] at hq
      rcases hq with rfl | rfl <;> omega

theorem tells (l : List P2) (x : Nat) (hx : x < 18446744073709551616) : F T 7 [.ro 2 (enc e2 l) false, .int .u64 x] [] = some (.bool true, []) := by
  refine F_W T7 ?_
  simp only [c7, c7_b, Lift.start]
  by_cases h1 : 100 < l.length
  · have h1' : (100 : Int) < l.length := by omega
    repeat (first | refine W_assoc ?_ | (show W _ (.seq (.region _ _) _) _ _; refine W_reg (by simp; with_reducible rfl) ?_) | (show R _ _ _ (_ :: _) _ _ _ _; refine R_op (by simp (maxSteps := 2000000) [h1, h1', V_works09]; with_reducible rfl) ?_) | (show R _ _ _ [] _ _ _ _; refine R_nil (by simp; with_reducible rfl) ?_) | (show W _ (.seq (.cond _ _ _) _) _ _; first | refine W_ct (by first | (simp [h1, h1', V_works09]; done) | fail) ?_ | refine W_cf (by first | (simp [h1, h1', V_works09]; done) | fail) ?_) | refine W_skip ?_ | refine W_bl (c := .seq _ _) ?_ | refine W_bl (c := .region _ _) ?_ | refine W_bl (c := .cond _ _ _) ?_ | refine W_bl (c := .block _ _) ?_ | refine W_rt ?_ | refine W_ex ?_ | refine W_end ?_ | refine W_tail (a := .region _ _) ?_ | refine W_tail (a := .cond _ _ _) ?_ | refine W_tail (a := .ret) ?_ | refine W_tail (a := .exit _) ?_ | refine W_tail (a := .block _ _) ?_ | refine QB_normal ?_ | refine QB_exit ?_ | refine QB_ret ?_ | refine QB_out (by decide) ?_ | refine QL_next ?_ | refine QL_exit ?_ | refine QL_ret ?_ | refine QL_out (by decide) ?_ | (show Fin _ _ .ret _; exact Fin_ret (by first | (simp [c7]; done) | (simp [c7]; with_reducible rfl))) | (show Fin _ _ .normal _; exact Fin_end (by first | (simp [c7]; done) | (simp [c7]; with_reducible rfl))))
  have h1' : ¬ (100 : Int) < l.length := by omega
  have v1 := V_depth l (by omega)
  have v2 := V_R09depth l (by omega)
  have v3 := V_Says l (by omega) x hx
  have v4 := V_R09says l (by omega) x hx
  have v5 := V_Asks l (by omega)
  have v6 := V_R09asks l (by omega)
  obtain ⟨w, v7, rfl⟩ := V_Parts l (by omega)
  have v8 := V_R09parts l (by omega)
  obtain ⟨hp1, hp2⟩ := parts_len l (by omega)
  have v9 := FV_of (F_lists (partsT (tree l)) (partsT (tree l)) (by omega) hp2 hp2)
  simp only [clo, decide_true] at v9
  generalize (match tree l with | some t => deep t | none => 0 : Nat) = d at *
  generalize partsT (tree l) = ps at *
  generalize saysL x l = sb at *
  generalize asksL l = sa at *
  repeat (first | refine W_assoc ?_ | (show W _ (.seq (.region _ _) _) _ _; refine W_reg (by simp; with_reducible rfl) ?_) | (show R _ _ _ (_ :: _) _ _ _ _; refine R_op (by simp (maxSteps := 2000000) [h1, h1', v1, v2, v3, v4, v5, v6, v7, v8, v9, V_works09]; with_reducible rfl) ?_) | (show R _ _ _ [] _ _ _ _; refine R_nil (by simp; with_reducible rfl) ?_) | (show W _ (.seq (.cond _ _ _) _) _ _; first | refine W_ct (by first | (simp [h1, h1', v1, v2, v3, v4, v5, v6, v7, v8, v9, V_works09]; done) | fail) ?_ | refine W_cf (by first | (simp [h1, h1', v1, v2, v3, v4, v5, v6, v7, v8, v9, V_works09]; done) | fail) ?_) | refine W_skip ?_ | refine W_bl (c := .seq _ _) ?_ | refine W_bl (c := .region _ _) ?_ | refine W_bl (c := .cond _ _ _) ?_ | refine W_bl (c := .block _ _) ?_ | refine W_rt ?_ | refine W_ex ?_ | refine W_end ?_ | refine W_tail (a := .region _ _) ?_ | refine W_tail (a := .cond _ _ _) ?_ | refine W_tail (a := .ret) ?_ | refine W_tail (a := .exit _) ?_ | refine W_tail (a := .block _ _) ?_ | refine QB_normal ?_ | refine QB_exit ?_ | refine QB_ret ?_ | refine QB_out (by decide) ?_ | refine QL_next ?_ | refine QL_exit ?_ | refine QL_ret ?_ | refine QL_out (by decide) ?_ | (show Fin _ _ .ret _; exact Fin_ret (by first | (simp [c7]; done) | (simp [c7]; with_reducible rfl))) | (show Fin _ _ .normal _; exact Fin_end (by first | (simp [c7]; done) | (simp [c7]; with_reducible rfl))))

end Go.Proofs.Ytnobgooojbppbab.Need
