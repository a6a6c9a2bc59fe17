/- Two ends of a talk: what comes. -/
import Derived.Test.YtjpccbjgmogclaaLink
set_option linter.all false
set_option linter.unusedSimpArgs false
set_option maxRecDepth 100000
set_option maxHeartbeats 4000000
namespace Go.Proofs.Ytjpccbjgmogclaa.Link
open Go Go.RowKit Go.Proofs.Ytjpccbjgmogclaa.Lift Go.Proofs.Ytjpccbjgmogclaa.TLK Go.Proofs.Ytjpccbjgmogclaa.Base Go.Proofs.Ytjpccbjgmogclaa Go.Proofs.Ytjpccbjgmogclaa.Sent

/-! #### the gate -/

def gLearn (me ip la pe : Int) : Int × Int × Int := if ip < pe then (me, pe, 0) else (me, ip, la)

theorem V_glearn (me ip la pe : Int) : FV (F T) 109 [.agg [.int .i64 me, .int .i64 ip, .int .i64 la], .int .i64 pe] = some (.agg [.int .i64 (gLearn me ip la pe).1, .int .i64 (gLearn me ip la pe).2.1, .int .i64 (gLearn me ip la pe).2.2]) := by
  unfold gLearn
  by_cases h : ip < pe
  · rw [if_pos h]
    refine FV_W T109 (r := ?r1) (W_fin (ex := .ret) (by simp [c109, c109_b, h]; with_reducible rfl) (by simp) (by first | (simp [c109]; done) | (simp [c109]; with_reducible rfl))) (by simp)
  · rw [if_neg h]
    refine FV_W T109 (r := ?r2) (W_fin (ex := .ret) (by simp [c109, c109_b, h]; with_reducible rfl) (by simp) (by first | (simp [c109]; done) | (simp [c109]; with_reducible rfl))) (by simp)

/-- What becomes of one that comes: the gate, and what it is. -/
def gTake (me ip la inc m s : Int) : (Int × Int × Int) × Int :=
  if inc < ip then ((me, ip, la), 0)
  else if m < (gLearn me ip la inc).1 then (gLearn me ip la inc, 3)
  else if (gLearn me ip la inc).1 < m then (gLearn me ip la inc, 0)
  else if 1 ≤ s ∧ s ≤ (gLearn me ip la inc).2.2 then (gLearn me ip la inc, 2)
  else if IntKind.i64.wrap (s - 1) ≠ (gLearn me ip la inc).2.2 ∨ (s < 1 ∧ 0 ≤ (gLearn me ip la inc).2.2) then (gLearn me ip la inc, 0)
  else (((gLearn me ip la inc).1, (gLearn me ip la inc).2.1, s), 1)

theorem V_gtake (me ip la inc m s : Int) : FV (F T) 56 [.agg [.int .i64 me, .int .i64 ip, .int .i64 la], .int .i64 inc, .int .i64 m, .int .i64 s] =
    some (.tup [.agg [.int .i64 (gTake me ip la inc m s).1.1, .int .i64 (gTake me ip la inc m s).1.2.1, .int .i64 (gTake me ip la inc m s).1.2.2], .int .i64 (gTake me ip la inc m s).2]) := by
  have f1 := V_glearn me ip la inc
  unfold gTake
  by_cases h1 : inc < ip
  · rw [if_pos h1]
    refine FV_W T56 (r := ?r3) (W_fin (ex := .ret) (by simp [c56, c56_b, h1]; with_reducible rfl) (by simp) (by first | (simp [c56]; done) | (simp [c56]; with_reducible rfl))) (by simp)
  rw [if_neg h1]
  generalize gLearn me ip la inc = g at *
  obtain ⟨a, b, c⟩ := g
  simp only [] at f1 ⊢
  by_cases h2 : m < a
  · rw [if_pos h2]
    refine FV_W T56 (r := ?r4) (W_fin (ex := .ret) (by simp [c56, c56_b, h1, f1, h2]; with_reducible rfl) (by simp) (by first | (simp [c56]; done) | (simp [c56]; with_reducible rfl))) (by simp)
  rw [if_neg h2]
  by_cases h3 : a < m
  · rw [if_pos h3]
    refine FV_W T56 (r := ?r5) (W_fin (ex := .ret) (by simp [c56, c56_b, h1, f1, h2, h3]; with_reducible rfl) (by simp) (by first | (simp [c56]; done) | (simp [c56]; with_reducible rfl))) (by simp)
  rw [if_neg h3]
  by_cases h4 : 1 ≤ s
  · have h4' : ¬ s < 1 := by omega
    by_cases h5 : s ≤ c
    · rw [if_pos ⟨h4, h5⟩]
      refine FV_W T56 (r := ?r6) (W_fin (ex := .ret) (by simp [c56, c56_b, h1, f1, h2, h3, h4, h5]; with_reducible rfl) (by simp) (by first | (simp [c56]; done) | (simp [c56]; with_reducible rfl))) (by simp)
    · rw [if_neg (fun h => h5 h.2)]
      by_cases h6 : IntKind.i64.wrap (s - 1) = c
      · rw [if_neg (by rintro (h | h) <;> omega)]
        subst h6
        refine FV_W T56 (r := ?r7) (W_fin (ex := .ret) (by simp [c56, c56_b, h1, f1, h2, h3, h4, h5, h4']; with_reducible rfl) (by simp) (by first | (simp [c56]; done) | (simp [c56]; with_reducible rfl))) (by simp)
      · rw [if_pos (.inl h6)]
        refine FV_W T56 (r := ?r8) (W_fin (ex := .ret) (by simp [c56, c56_b, h1, f1, h2, h3, h4, h5, h6]; with_reducible rfl) (by simp) (by first | (simp [c56]; done) | (simp [c56]; with_reducible rfl))) (by simp)
  · have h4' : s < 1 := by omega
    rw [if_neg (fun h => h4 h.1)]
    by_cases h6 : IntKind.i64.wrap (s - 1) = c
    · subst h6
      by_cases h7 : 0 ≤ IntKind.i64.wrap (s - 1)
      · rw [if_pos (.inr ⟨h4', h7⟩)]
        refine FV_W T56 (r := ?r9) (W_fin (ex := .ret) (by simp [c56, c56_b, h1, f1, h2, h3, h4, h4', h7]; with_reducible rfl) (by simp) (by first | (simp [c56]; done) | (simp [c56]; with_reducible rfl))) (by simp)
      · rw [if_neg (by rintro (h | h); exact h rfl; exact h7 h.2)]
        refine FV_W T56 (r := ?r10) (W_fin (ex := .ret) (by simp [c56, c56_b, h1, f1, h2, h3, h4, h4', h7]; with_reducible rfl) (by simp) (by first | (simp [c56]; done) | (simp [c56]; with_reducible rfl))) (by simp)
    · rw [if_pos (.inl h6)]
      refine FV_W T56 (r := ?r11) (W_fin (ex := .ret) (by simp [c56, c56_b, h1, f1, h2, h3, h4, h6]; with_reducible rfl) (by simp) (by first | (simp [c56]; done) | (simp [c56]; with_reducible rfl))) (by simp)

/-! #### what an end does -/

def putE (e : Ed) (b : Int) (t : ByteArray) : Ed × List Pt × Int :=
  if 32 < t.size then (e, [], 1) else ({ e with o := (putO e.o b t).1 }, datL { e with o := (putO e.o b t).1 } (putO e.o b t).2.1, (putO e.o b t).2.2)

theorem putO_len (o : Ou) (b : Int) (t : ByteArray) : (putO o b t).1.tx.length ≤ o.tx.length + 1 := by
  unfold putO
  repeat' split
  all_goals simp

theorem V_putE (e : Ed) (b : Int) (t : ByteArray) (hS : e.o.tx.length ≤ 10000) :
    FV (F T) 16 [.agg (eEd e), .int .i64 b, .str t] = some (.tup [.agg (eEd (putE e b t).1), .ro 7 (enc ePt (putE e b t).2.1) false, .int .i64 (putE e b t).2.2]) := by
  unfold putE
  by_cases h1 : 32 < t.size
  · rw [if_pos h1]
    have h1' : (32 : Int) < t.size := by omega
    have h : F T 16 [.agg (eEd e), .int .i64 b, .str t] [] = some (.tup [.agg (eEd e), .own 0 0 0, .int .i64 1], [⟨44, 7, false, [], 0⟩]) := by
      refine F_W T16 ?_
      simp only [c16, c16_b, Lift.start, eEd]
      repeat (first | refine W_assoc ?_ | (show W _ (.seq (.region _ _) _) _ _; refine W_reg (by simp; with_reducible rfl) ?_) | (show R _ _ _ (_ :: _) _ _ _ _; refine R_op (by simp (maxSteps := 2000000) [h1, h1']; with_reducible rfl) ?_) | (show R _ _ _ [] _ _ _ _; refine R_nil (by simp; with_reducible rfl) ?_) | (show W _ (.seq (.cond _ _ _) _) _ _; first | refine W_ct (by first | (simp [h1, h1']; done) | fail) ?_ | refine W_cf (by first | (simp [h1, h1']; done) | fail) ?_) | refine W_skip ?_ | refine W_bl (c := .seq _ _) ?_ | refine W_bl (c := .region _ _) ?_ | refine W_bl (c := .cond _ _ _) ?_ | refine W_bl (c := .block _ _) ?_ | refine W_rt ?_ | refine W_ex ?_ | refine W_end ?_ | refine W_tail (a := .region _ _) ?_ | refine W_tail (a := .cond _ _ _) ?_ | refine W_tail (a := .ret) ?_ | refine W_tail (a := .exit _) ?_ | refine W_tail (a := .block _ _) ?_ | refine QB_normal ?_ | refine QB_exit ?_ | refine QB_ret ?_ | refine QB_out (by decide) ?_ | refine QL_next ?_ | refine QL_exit ?_ | refine QL_ret ?_ | refine QL_out (by decide) ?_ | (show Fin _ _ .ret _; exact Fin_ret (by first | (simp [c16]; done) | (simp [c16]; with_reducible rfl))) | (show Fin _ _ .normal _; exact Fin_end (by first | (simp [c16]; done) | (simp [c16]; with_reducible rfl))))
    simpa using FV_of h
  rw [if_neg h1]
  have h1' : ¬ (32 : Int) < t.size := by omega
  have f1 := V_putO e.o b t (by omega)
  have hlen := putO_len e.o b t
  obtain ⟨fr, to, inc, o, me, ip, la⟩ := e
  simp only [] at f1 hlen hS ⊢
  generalize putO o b t = r at *
  obtain ⟨o', s, c⟩ := r
  simp only [] at f1 hlen ⊢
  have f2 := V_data ⟨fr, to, inc, o', me, ip, la⟩ s (by simp only []; omega)
  simp only [eEd, eOu] at f1 f2 ⊢
  have h : F T 16 [.agg [.int .i64 fr, .int .i64 to, .int .i64 inc, .int .i64 o.pe, .int .i64 o.sq, .ro 1 (enc eStr o.tx) false, .int .i64 o.wt, .int .i64 o.lf, .int .i64 me, .int .i64 ip, .int .i64 la], .int .i64 b, .str t] [] =
      some (.tup [.agg [.int .i64 fr, .int .i64 to, .int .i64 inc, .int .i64 o'.pe, .int .i64 o'.sq, .ro 1 (enc eStr o'.tx) false, .int .i64 o'.wt, .int .i64 o'.lf, .int .i64 me, .int .i64 ip, .int .i64 la], .ro 7 (enc ePt (datL ⟨fr, to, inc, o', me, ip, la⟩ s)) false, .int .i64 c], []) := by
    refine F_W T16 ?_
    simp only [c16, c16_b, Lift.start]
    repeat (first | refine W_assoc ?_ | (show W _ (.seq (.region _ _) _) _ _; refine W_reg (by simp; with_reducible rfl) ?_) | (show R _ _ _ (_ :: _) _ _ _ _; refine R_op (by simp (maxSteps := 2000000) [h1, h1', f1, f2]; with_reducible rfl) ?_) | (show R _ _ _ [] _ _ _ _; refine R_nil (by simp; with_reducible rfl) ?_) | (show W _ (.seq (.cond _ _ _) _) _ _; first | refine W_ct (by first | (simp [h1, h1', f1, f2]; done) | fail) ?_ | refine W_cf (by first | (simp [h1, h1', f1, f2]; done) | fail) ?_) | refine W_skip ?_ | refine W_bl (c := .seq _ _) ?_ | refine W_bl (c := .region _ _) ?_ | refine W_bl (c := .cond _ _ _) ?_ | refine W_bl (c := .block _ _) ?_ | refine W_rt ?_ | refine W_ex ?_ | refine W_end ?_ | refine W_tail (a := .region _ _) ?_ | refine W_tail (a := .cond _ _ _) ?_ | refine W_tail (a := .ret) ?_ | refine W_tail (a := .exit _) ?_ | refine W_tail (a := .block _ _) ?_ | refine QB_normal ?_ | refine QB_exit ?_ | refine QB_ret ?_ | refine QB_out (by decide) ?_ | refine QL_next ?_ | refine QL_exit ?_ | refine QL_ret ?_ | refine QL_out (by decide) ?_ | (show Fin _ _ .ret _; exact Fin_ret (by first | (simp [c16]; done) | (simp [c16]; with_reducible rfl))) | (show Fin _ _ .normal _; exact Fin_end (by first | (simp [c16]; done) | (simp [c16]; with_reducible rfl))))
  simpa using FV_of h

def tikE (e : Ed) : Ed × List Pt := ({ e with o := (tikO e.o).1 }, datL { e with o := (tikO e.o).1 } (tikO e.o).2)

theorem tikO_tx (o : Ou) : (tikO o).1.tx = o.tx := by unfold tikO; split <;> rfl

theorem V_tikE (e : Ed) (hS : e.o.tx.length ≤ 10000) : FV (F T) 18 [.agg (eEd e)] = some (.tup [.agg (eEd (tikE e).1), .ro 7 (enc ePt (tikE e).2) false]) := by
  unfold tikE
  have f1 := V_tikO e.o
  have hlen := tikO_tx e.o
  obtain ⟨fr, to, inc, o, me, ip, la⟩ := e
  simp only [] at f1 hlen hS ⊢
  generalize tikO o = r at *
  obtain ⟨o', s⟩ := r
  simp only [] at f1 hlen ⊢
  have f2 := V_data ⟨fr, to, inc, o', me, ip, la⟩ s (by simp only []; rw [hlen]; omega)
  simp only [eEd, eOu] at f1 f2 ⊢
  have h : F T 18 [.agg [.int .i64 fr, .int .i64 to, .int .i64 inc, .int .i64 o.pe, .int .i64 o.sq, .ro 1 (enc eStr o.tx) false, .int .i64 o.wt, .int .i64 o.lf, .int .i64 me, .int .i64 ip, .int .i64 la]] [] =
      some (.tup [.agg [.int .i64 fr, .int .i64 to, .int .i64 inc, .int .i64 o'.pe, .int .i64 o'.sq, .ro 1 (enc eStr o'.tx) false, .int .i64 o'.wt, .int .i64 o'.lf, .int .i64 me, .int .i64 ip, .int .i64 la], .ro 7 (enc ePt (datL ⟨fr, to, inc, o', me, ip, la⟩ s)) false], []) := by
    refine F_W T18 ?_
    simp only [c18, c18_b, Lift.start]
    repeat (first | refine W_assoc ?_ | (show W _ (.seq (.region _ _) _) _ _; refine W_reg (by simp; with_reducible rfl) ?_) | (show R _ _ _ (_ :: _) _ _ _ _; refine R_op (by simp (maxSteps := 2000000) [f1, f2]; with_reducible rfl) ?_) | (show R _ _ _ [] _ _ _ _; refine R_nil (by simp; with_reducible rfl) ?_) | (show W _ (.seq (.cond _ _ _) _) _ _; first | refine W_ct (by first | (simp [f1, f2]; done) | fail) ?_ | refine W_cf (by first | (simp [f1, f2]; done) | fail) ?_) | refine W_skip ?_ | refine W_bl (c := .seq _ _) ?_ | refine W_bl (c := .region _ _) ?_ | refine W_bl (c := .cond _ _ _) ?_ | refine W_bl (c := .block _ _) ?_ | refine W_rt ?_ | refine W_ex ?_ | refine W_end ?_ | refine W_tail (a := .region _ _) ?_ | refine W_tail (a := .cond _ _ _) ?_ | refine W_tail (a := .ret) ?_ | refine W_tail (a := .exit _) ?_ | refine W_tail (a := .block _ _) ?_ | refine QB_normal ?_ | refine QB_exit ?_ | refine QB_ret ?_ | refine QB_out (by decide) ?_ | refine QL_next ?_ | refine QL_exit ?_ | refine QL_ret ?_ | refine QL_out (by decide) ?_ | (show Fin _ _ .ret _; exact Fin_ret (by first | (simp [c18]; done) | (simp [c18]; with_reducible rfl))) | (show Fin _ _ .normal _; exact Fin_end (by first | (simp [c18]; done) | (simp [c18]; with_reducible rfl))))
  simpa using FV_of h

def lrnE (e : Ed) (a : Int) : Ed × List Pt :=
  ({ e with o := (lrnO e.o a).1, me := (gLearn e.me e.ip e.la a).1, ip := (gLearn e.me e.ip e.la a).2.1, la := (gLearn e.me e.ip e.la a).2.2 }, datL { e with o := (lrnO e.o a).1, me := (gLearn e.me e.ip e.la a).1, ip := (gLearn e.me e.ip e.la a).2.1, la := (gLearn e.me e.ip e.la a).2.2 } (lrnO e.o a).2)

theorem lrnO_tx (o : Ou) (a : Int) : (lrnO o a).1.tx = o.tx := by
  unfold lrnO
  by_cases h : a ≤ o.pe
  · rw [if_pos h]
  · rw [if_neg h]
    by_cases h2 : o.tx = []
    · rw [if_pos h2]
    · rw [if_neg h2]

theorem F_lrnE (e : Ed) (a : Int) (hS : e.o.tx.length ≤ 10000) : F T 55 [.agg (eEd e), .int .i64 a] [] = some (.tup [.agg (eEd (lrnE e a).1), .own 0 0 (lrnE e a).2.length], [⟨44, 7, false, enc ePt (lrnE e a).2, 0⟩]) := by
  unfold lrnE
  have f1 := V_lrnO e.o a (by omega)
  have f3 := V_glearn e.me e.ip e.la a
  have hlen := lrnO_tx e.o a
  obtain ⟨fr, to, inc, o, me, ip, la⟩ := e
  simp only [] at f1 f3 hlen hS ⊢
  generalize lrnO o a = r at *
  obtain ⟨o', s⟩ := r
  generalize gLearn me ip la a = g at *
  obtain ⟨g1, g2, g3⟩ := g
  simp only [] at f1 f3 hlen ⊢
  have f2 := F_data ⟨fr, to, inc, o', g1, g2, g3⟩ s (by simp only []; rw [hlen]; omega)
  simp only [eEd, eOu] at f1 f2 f3 ⊢
  refine F_W T55 ?_
  simp only [c55, c55_b, Lift.start]
  repeat (first | refine W_assoc ?_ | (show W _ (.seq (.region _ _) _) _ _; refine W_reg (by simp; with_reducible rfl) ?_) | (show R _ _ _ (_ :: _) _ _ _ _; refine R_op (by simp (maxSteps := 2000000) [f1, f2, f3]; with_reducible rfl) ?_) | (show R _ _ _ [] _ _ _ _; refine R_nil (by simp; with_reducible rfl) ?_) | (show W _ (.seq (.cond _ _ _) _) _ _; first | refine W_ct (by first | (simp [f1, f2, f3]; done) | fail) ?_ | refine W_cf (by first | (simp [f1, f2, f3]; done) | fail) ?_) | refine W_skip ?_ | refine W_bl (c := .seq _ _) ?_ | refine W_bl (c := .region _ _) ?_ | refine W_bl (c := .cond _ _ _) ?_ | refine W_bl (c := .block _ _) ?_ | refine W_rt ?_ | refine W_ex ?_ | refine W_end ?_ | refine W_tail (a := .region _ _) ?_ | refine W_tail (a := .cond _ _ _) ?_ | refine W_tail (a := .ret) ?_ | refine W_tail (a := .exit _) ?_ | refine W_tail (a := .block _ _) ?_ | refine QB_normal ?_ | refine QB_exit ?_ | refine QB_ret ?_ | refine QB_out (by decide) ?_ | refine QL_next ?_ | refine QL_exit ?_ | refine QL_ret ?_ | refine QL_out (by decide) ?_ | (show Fin _ _ .ret _; exact Fin_ret (by first | (simp [c55]; done) | (simp [c55]; with_reducible rfl))) | (show Fin _ _ .normal _; exact Fin_end (by first | (simp [c55]; done) | (simp [c55]; with_reducible rfl))))

theorem V_answer (e : Ed) (k : Int) (p : Pt) (s : Int) : FV (F T) 57 [.agg (eEd e), .int .i64 k, .agg (ePt p), .int .i64 s] = some (.agg (ePt ⟨k, e.fr, e.to, e.inc, p.inc, s, ⟨⟨[]⟩⟩⟩)) := by
  have h : F T 57 [.agg (eEd e), .int .i64 k, .agg (ePt p), .int .i64 s] [] = some (.agg (ePt ⟨k, e.fr, e.to, e.inc, p.inc, s, ⟨⟨[]⟩⟩⟩), []) := by
    refine F_W T57 ?_
    simp only [c57, c57_b, Lift.start, eEd, ePt]
    repeat (first | refine W_assoc ?_ | (show W _ (.seq (.region _ _) _) _ _; refine W_reg (by simp; with_reducible rfl) ?_) | (show R _ _ _ (_ :: _) _ _ _ _; refine R_op (by simp (maxSteps := 2000000); with_reducible rfl) ?_) | (show R _ _ _ [] _ _ _ _; refine R_nil (by simp; with_reducible rfl) ?_) | (show W _ (.seq (.cond _ _ _) _) _ _; first | refine W_ct (by first | (simp; done) | fail) ?_ | refine W_cf (by first | (simp; done) | fail) ?_) | refine W_skip ?_ | refine W_bl (c := .seq _ _) ?_ | refine W_bl (c := .region _ _) ?_ | refine W_bl (c := .cond _ _ _) ?_ | refine W_bl (c := .block _ _) ?_ | refine W_rt ?_ | refine W_ex ?_ | refine W_end ?_ | refine W_tail (a := .region _ _) ?_ | refine W_tail (a := .cond _ _ _) ?_ | refine W_tail (a := .ret) ?_ | refine W_tail (a := .exit _) ?_ | refine W_tail (a := .block _ _) ?_ | refine QB_normal ?_ | refine QB_exit ?_ | refine QB_ret ?_ | refine QB_out (by decide) ?_ | refine QL_next ?_ | refine QL_exit ?_ | refine QL_ret ?_ | refine QL_out (by decide) ?_ | (show Fin _ _ .ret _; exact Fin_ret (by first | (simp [c57]; done) | (simp [c57]; with_reducible rfl))) | (show Fin _ _ .normal _; exact Fin_end (by first | (simp [c57]; done) | (simp [c57]; with_reducible rfl))))
  simpa using FV_of h

end Go.Proofs.Ytjpccbjgmogclaa.Link
