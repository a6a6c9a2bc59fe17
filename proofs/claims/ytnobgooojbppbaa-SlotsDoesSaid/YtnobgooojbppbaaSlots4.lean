/- A worker's slots: what becomes of any slots is as the document has it. -/
import Derived.Test.YtnobgooojbppbaaSlots3
set_option linter.all false
set_option linter.unusedSimpArgs false
set_option maxRecDepth 100000
set_option maxHeartbeats 8000000
namespace Go.Proofs.Ytnobgooojbppbaa.Slots
open Go Go.RowKit Go.Proofs.Ytnobgooojbppbaa.Lift Go.Proofs.Ytnobgooojbppbaa.TS Go.Proofs.Ytnobgooojbppbaa.Base Go.Proofs.Ytnobgooojbppbaa.Queue

theorem V_works30 : FV (F T) 87 [] = some (.bool true) := by
  have hw : F T 87 [] [] = some (.bool true, []) := F_iff.2 ⟨200, by kernel_rfl⟩
  have h := FV_of hw
  simpa using h

theorem V_R29move (aa : List P2) (ha : aa.length ≤ 1000000) (j s : Int) : FV (F T) 66 [.ro 2 (enc e2 aa) false, .int .i64 j, .int .i64 s] = some (.ro 2 (enc e2 (aa.map (mv j s))) false) := by
  have h := FV_of (F_R29_Move aa j s ha)
  rw [flatMap_mv] at h
  simpa using h

theorem does (n : Int) (hm : n ≤ 9223372036854775807) (aa oo rr : List P2) (j t : Int) :
    F T 13 [.agg [.int .i64 n, .ro 2 (enc e2 aa) false, .ro 2 (enc e2 oo) false, .ro 2 (enc e2 rr) false], .agg [.int .i64 j, .int .i64 t]] [] = some (.bool true, []) := by
  refine F_W T13 ?_
  simp only [c13, c13_b, Lift.start]
  by_cases h1 : 60 < aa.length
  · have h1' : (60 : Int) < aa.length := by omega
    repeat (first | refine W_assoc ?_ | (show W _ (.seq (.region _ _) _) _ _; refine W_reg (by simp; with_reducible rfl) ?_) | (show R _ _ _ (_ :: _) _ _ _ _; refine R_op (by simp (maxSteps := 2000000) [h1, h1', V_works30]; with_reducible rfl) ?_) | (show R _ _ _ [] _ _ _ _; refine R_nil (by simp; with_reducible rfl) ?_) | (show W _ (.seq (.cond _ _ _) _) _ _; first | refine W_ct (by first | (simp [h1, h1', V_works30]; done) | fail) ?_ | refine W_cf (by first | (simp [h1, h1', V_works30]; done) | fail) ?_) | refine W_skip ?_ | refine W_bl (c := .seq _ _) ?_ | refine W_bl (c := .region _ _) ?_ | refine W_bl (c := .cond _ _ _) ?_ | refine W_bl (c := .block _ _) ?_ | refine W_rt ?_ | refine W_ex ?_ | refine W_end ?_ | refine W_tail (a := .region _ _) ?_ | refine W_tail (a := .cond _ _ _) ?_ | refine W_tail (a := .ret) ?_ | refine W_tail (a := .exit _) ?_ | refine W_tail (a := .block _ _) ?_ | refine QB_normal ?_ | refine QB_exit ?_ | refine QB_ret ?_ | refine QB_out (by decide) ?_ | refine QL_next ?_ | refine QL_exit ?_ | refine QL_ret ?_ | refine QL_out (by decide) ?_ | (show Fin _ _ .ret _; exact Fin_ret (by first | (simp [c13]; done) | (simp [c13]; with_reducible rfl))) | (show Fin _ _ .normal _; exact Fin_end (by first | (simp [c13]; done) | (simp [c13]; with_reducible rfl))))
  by_cases h2 : 60 < oo.length
  · have h1' : ¬ (60 : Int) < aa.length := by omega
    have h2' : (60 : Int) < oo.length := by omega
    repeat (first | refine W_assoc ?_ | (show W _ (.seq (.region _ _) _) _ _; refine W_reg (by simp; with_reducible rfl) ?_) | (show R _ _ _ (_ :: _) _ _ _ _; refine R_op (by simp (maxSteps := 2000000) [h1, h1', h2, h2', V_works30]; with_reducible rfl) ?_) | (show R _ _ _ [] _ _ _ _; refine R_nil (by simp; with_reducible rfl) ?_) | (show W _ (.seq (.cond _ _ _) _) _ _; first | refine W_ct (by first | (simp [h1, h1', h2, h2', V_works30]; done) | fail) ?_ | refine W_cf (by first | (simp [h1, h1', h2, h2', V_works30]; done) | fail) ?_) | refine W_skip ?_ | refine W_bl (c := .seq _ _) ?_ | refine W_bl (c := .region _ _) ?_ | refine W_bl (c := .cond _ _ _) ?_ | refine W_bl (c := .block _ _) ?_ | refine W_rt ?_ | refine W_ex ?_ | refine W_end ?_ | refine W_tail (a := .region _ _) ?_ | refine W_tail (a := .cond _ _ _) ?_ | refine W_tail (a := .ret) ?_ | refine W_tail (a := .exit _) ?_ | refine W_tail (a := .block _ _) ?_ | refine QB_normal ?_ | refine QB_exit ?_ | refine QB_ret ?_ | refine QB_out (by decide) ?_ | refine QL_next ?_ | refine QL_exit ?_ | refine QL_ret ?_ | refine QL_out (by decide) ?_ | (show Fin _ _ .ret _; exact Fin_ret (by first | (simp [c13]; done) | (simp [c13]; with_reducible rfl))) | (show Fin _ _ .normal _; exact Fin_end (by first | (simp [c13]; done) | (simp [c13]; with_reducible rfl))))
  by_cases h3 : 60 < rr.length
  · have h1' : ¬ (60 : Int) < aa.length := by omega
    have h2' : ¬ (60 : Int) < oo.length := by omega
    have h3' : (60 : Int) < rr.length := by omega
    repeat (first | refine W_assoc ?_ | (show W _ (.seq (.region _ _) _) _ _; refine W_reg (by simp; with_reducible rfl) ?_) | (show R _ _ _ (_ :: _) _ _ _ _; refine R_op (by simp (maxSteps := 2000000) [h1, h1', h2, h2', h3, h3', V_works30]; with_reducible rfl) ?_) | (show R _ _ _ [] _ _ _ _; refine R_nil (by simp; with_reducible rfl) ?_) | (show W _ (.seq (.cond _ _ _) _) _ _; first | refine W_ct (by first | (simp [h1, h1', h2, h2', h3, h3', V_works30]; done) | fail) ?_ | refine W_cf (by first | (simp [h1, h1', h2, h2', h3, h3', V_works30]; done) | fail) ?_) | refine W_skip ?_ | refine W_bl (c := .seq _ _) ?_ | refine W_bl (c := .region _ _) ?_ | refine W_bl (c := .cond _ _ _) ?_ | refine W_bl (c := .block _ _) ?_ | refine W_rt ?_ | refine W_ex ?_ | refine W_end ?_ | refine W_tail (a := .region _ _) ?_ | refine W_tail (a := .cond _ _ _) ?_ | refine W_tail (a := .ret) ?_ | refine W_tail (a := .exit _) ?_ | refine W_tail (a := .block _ _) ?_ | refine QB_normal ?_ | refine QB_exit ?_ | refine QB_ret ?_ | refine QB_out (by decide) ?_ | refine QL_next ?_ | refine QL_exit ?_ | refine QL_ret ?_ | refine QL_out (by decide) ?_ | (show Fin _ _ .ret _; exact Fin_ret (by first | (simp [c13]; done) | (simp [c13]; with_reducible rfl))) | (show Fin _ _ .normal _; exact Fin_end (by first | (simp [c13]; done) | (simp [c13]; with_reducible rfl))))
  have h1' : ¬ (60 : Int) < aa.length := by omega
  have h2' : ¬ (60 : Int) < oo.length := by omega
  have h3' : ¬ (60 : Int) < rr.length := by omega
  by_cases h4 : n < 0
  · repeat (first | refine W_assoc ?_ | (show W _ (.seq (.region _ _) _) _ _; refine W_reg (by simp; with_reducible rfl) ?_) | (show R _ _ _ (_ :: _) _ _ _ _; refine R_op (by simp (maxSteps := 2000000) [h1, h1', h2, h2', h3, h3', h4, V_works30]; with_reducible rfl) ?_) | (show R _ _ _ [] _ _ _ _; refine R_nil (by simp; with_reducible rfl) ?_) | (show W _ (.seq (.cond _ _ _) _) _ _; first | refine W_ct (by first | (simp [h1, h1', h2, h2', h3, h3', h4, V_works30]; done) | fail) ?_ | refine W_cf (by first | (simp [h1, h1', h2, h2', h3, h3', h4, V_works30]; done) | fail) ?_) | refine W_skip ?_ | refine W_bl (c := .seq _ _) ?_ | refine W_bl (c := .region _ _) ?_ | refine W_bl (c := .cond _ _ _) ?_ | refine W_bl (c := .block _ _) ?_ | refine W_rt ?_ | refine W_ex ?_ | refine W_end ?_ | refine W_tail (a := .region _ _) ?_ | refine W_tail (a := .cond _ _ _) ?_ | refine W_tail (a := .ret) ?_ | refine W_tail (a := .exit _) ?_ | refine W_tail (a := .block _ _) ?_ | refine QB_normal ?_ | refine QB_exit ?_ | refine QB_ret ?_ | refine QB_out (by decide) ?_ | refine QL_next ?_ | refine QL_exit ?_ | refine QL_ret ?_ | refine QL_out (by decide) ?_ | (show Fin _ _ .ret _; exact Fin_ret (by first | (simp [c13]; done) | (simp [c13]; with_reducible rfl))) | (show Fin _ _ .normal _; exact Fin_end (by first | (simp [c13]; done) | (simp [c13]; with_reducible rfl))))
  have hn : 0 ≤ n := by omega
  have ha : aa.length ≤ 1000000 := by omega
  have ho : oo.length ≤ 1000000 := by omega
  have hr : rr.length ≤ 1000000 := by omega
  have v1 := V_of30 n aa oo rr ha ho hr
  have v2 := V_ask n hn hm aa oo rr ha hr j t
  have v3 := V_R30ask n hn hm aa oo rr ha hr j t
  have v4 := V_free n hn hm aa oo rr ha hr
  have v5 := V_R30free n hn hm aa oo rr ha hr
  have la : (if asks n aa rr j then aa ++ [(j, t)] else aa).length ≤ 1000000 := by split <;> (try simp only [List.length_append, List.length_cons, List.length_nil, List.length_tail]) <;> omega
  generalize (if asks n aa rr j then aa ++ [(j, t)] else aa) = a1 at v2 v3 la
  generalize asks n aa rr j = b1 at v2 v3
  have v6 := V_is n a1 oo rr la ho hr
  have v7 := V_none n aa oo rr ha j
  have v8 := V_R30none n aa oo rr ha j
  have ld := dr_len aa j
  have v10 := V_give n hn hm aa oo rr ha ho hr j t
  have v11 := V_R30give n hn hm aa oo rr ha ho hr j t
  have lo2 : (if gives n aa rr j then oo else oo ++ [(j, t)]).length ≤ 1000000 := by split <;> (try simp only [List.length_append, List.length_cons, List.length_nil, List.length_tail]) <;> omega
  have lr2 : (if gives n aa rr j then rr ++ [(j, t)] else rr).length ≤ 1000000 := by split <;> (try simp only [List.length_append, List.length_cons, List.length_nil, List.length_tail]) <;> omega
  generalize (if gives n aa rr j then oo else oo ++ [(j, t)]) = o2 at v10 v11 lo2
  generalize (if gives n aa rr j then rr ++ [(j, t)] else rr) = r2 at v10 v11 lr2
  generalize gives n aa rr j = b2 at v10 v11
  generalize hdr : dr aa j = d1 at v7 v8 v10 v11 ld
  generalize (aa.any fun x => decide (x.1 = j)) = bd at v7 v8
  have v9 := V_is n d1 oo rr (by omega) ho hr
  have v12 := V_is n d1 o2 r2 (by omega) lo2 lr2
  have v13 := V_same n n aa oo rr d1 o2 r2 ha ho hr (by omega) lo2 lr2
  have v14 := V_R30same n n aa oo rr d1 o2 r2 ha ho hr (by omega) lo2 lr2
  generalize (decide (n = n) && (decide (aa = d1) && (decide (oo = o2) && decide (rr = r2)))) = bs at v13 v14
  have v15 := V_next n hn hm aa oo rr ha ho hr
  have v16 := V_R30next n hn hm aa oo rr ha ho hr
  have lo3 : (if nexts n aa oo rr then oo.tail else oo).length ≤ 1000000 := by split <;> (try simp only [List.length_append, List.length_cons, List.length_nil, List.length_tail]) <;> omega
  have lr3 : (if nexts n aa oo rr then rr ++ [oo.head?.getD (0, 0)] else rr).length ≤ 1000000 := by split <;> (try simp only [List.length_append, List.length_cons, List.length_nil, List.length_tail]) <;> omega
  generalize (if nexts n aa oo rr then oo.tail else oo) = o3 at v15 v16 lo3
  generalize (if nexts n aa oo rr then rr ++ [oo.head?.getD (0, 0)] else rr) = r3 at v15 v16 lr3
  generalize (if nexts n aa oo rr then oo.head?.getD (0, 0) else (0, 0)) = t3 at v15 v16
  generalize nexts n aa oo rr = b3 at v15 v16
  have v17 := V_is n aa o3 r3 ha lo3 lr3
  have v18 := V_end n aa oo rr hr j t
  have v19 := V_R30end n aa oo rr hr j t
  have le4 := er_len rr (j, t)
  generalize er rr (j, t) = r4 at v18 v19 le4
  generalize (rr.any fun x => decide (x = (j, t))) = b4 at v18 v19
  have v20 := V_is n aa oo r4 ha ho (by omega)
  have v21 := V_move n aa oo rr ha j t
  have v22 := V_R29move aa ha j t
  have v23 := V_is n (aa.map (mv j t)) oo rr (by simpa using ha) ho hr
  have v24 := V_is n aa oo rr ha ho hr
  have v25 := V_same n n aa oo rr aa oo rr ha ho hr ha ho hr
  simp only [decide_true, Bool.and_self] at v25
  simp only [e2] at v15 v16
  repeat (first | refine W_assoc ?_ | (show W _ (.seq (.region _ _) _) _ _; refine W_reg (by simp; with_reducible rfl) ?_) | (show R _ _ _ (_ :: _) _ _ _ _; refine R_op (by simp (maxSteps := 2000000) [h1, h1', h2, h2', h3, h3', h4, v1, v2, v3, v4, v5, v6, v7, v8, v9, v10, v11, v12, v13, v14, v15, v16, v17, v18, v19, v20, v21, v22, v23, v24, v25, eqCs, V_works30]; with_reducible rfl) ?_) | (show R _ _ _ [] _ _ _ _; refine R_nil (by simp; with_reducible rfl) ?_) | (show W _ (.seq (.cond _ _ _) _) _ _; first | refine W_ct (by first | (simp [h1, h1', h2, h2', h3, h3', h4, v1, v2, v3, v4, v5, v6, v7, v8, v9, v10, v11, v12, v13, v14, v15, v16, v17, v18, v19, v20, v21, v22, v23, v24, v25, eqCs, V_works30]; done) | fail) ?_ | refine W_cf (by first | (simp [h1, h1', h2, h2', h3, h3', h4, v1, v2, v3, v4, v5, v6, v7, v8, v9, v10, v11, v12, v13, v14, v15, v16, v17, v18, v19, v20, v21, v22, v23, v24, v25, eqCs, V_works30]; done) | fail) ?_) | refine W_skip ?_ | refine W_bl (c := .seq _ _) ?_ | refine W_bl (c := .region _ _) ?_ | refine W_bl (c := .cond _ _ _) ?_ | refine W_bl (c := .block _ _) ?_ | refine W_rt ?_ | refine W_ex ?_ | refine W_end ?_ | refine W_tail (a := .region _ _) ?_ | refine W_tail (a := .cond _ _ _) ?_ | refine W_tail (a := .ret) ?_ | refine W_tail (a := .exit _) ?_ | refine W_tail (a := .block _ _) ?_ | refine QB_normal ?_ | refine QB_exit ?_ | refine QB_ret ?_ | refine QB_out (by decide) ?_ | refine QL_next ?_ | refine QL_exit ?_ | refine QL_ret ?_ | refine QL_out (by decide) ?_ | (show Fin _ _ .ret _; exact Fin_ret (by first | (simp [c13]; done) | (simp [c13]; with_reducible rfl))) | (show Fin _ _ .normal _; exact Fin_end (by first | (simp [c13]; done) | (simp [c13]; with_reducible rfl))))

end Go.Proofs.Ytnobgooojbppbaa.Slots
