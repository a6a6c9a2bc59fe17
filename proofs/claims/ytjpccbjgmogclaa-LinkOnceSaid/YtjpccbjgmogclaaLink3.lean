/- Two ends of a talk: what becomes of one that comes. -/
import Derived.Test.YtjpccbjgmogclaaLink2
set_option linter.all false
set_option linter.unusedSimpArgs false
set_option maxRecDepth 100000
set_option maxHeartbeats 8000000
namespace Go.Proofs.Ytjpccbjgmogclaa.Link
open Go Go.RowKit Go.Proofs.Ytjpccbjgmogclaa.Lift Go.Proofs.Ytjpccbjgmogclaa.TLK Go.Proofs.Ytjpccbjgmogclaa.Base Go.Proofs.Ytjpccbjgmogclaa Go.Proofs.Ytjpccbjgmogclaa.Sent

abbrev emp : ByteArray := ⟨⟨[]⟩⟩
/-- An end, its gate another. -/
def Ed.gate (e : Ed) (g : Int × Int × Int) : Ed := { e with me := g.1, ip := g.2.1, la := g.2.2 }
def ans (e : Ed) (k : Int) (p : Pt) (s : Int) : Pt := ⟨k, e.fr, e.to, e.inc, p.inc, s, emp⟩

/-- What becomes of a first text that comes. -/
def takD (e : Ed) (p : Pt) : Ed × ByteArray × Bool × List Pt :=
  let r := lrnE e p.inc
  let g := gTake r.1.me r.1.ip r.1.la p.inc p.pe p.sq
  if g.2 = 1 then (r.1.gate g.1, p.bd, true, r.2 ++ [ans r.1 2 p p.sq])
  else if g.2 = 2 then (r.1.gate g.1, emp, false, r.2 ++ [ans r.1 2 p p.sq])
  else if g.2 = 3 then (r.1.gate g.1, emp, false, r.2 ++ [ans r.1 3 p 0])
  else (r.1.gate g.1, emp, false, r.2)
/-- .. of an answer. -/
def takA (e : Ed) (p : Pt) : Ed × ByteArray × Bool × List Pt :=
  if p.pe ≠ e.inc then (e, emp, false, [])
  else
    let r := lrnE e p.inc
    let a := ackO r.1.o p.inc p.sq
    ({ r.1 with o := a.1 }, emp, false, r.2 ++ datL { r.1 with o := a.1 } a.2)
def takH (e : Ed) (p : Pt) : Ed × ByteArray × Bool × List Pt :=
  if p.pe ≤ e.inc then ((lrnE e p.inc).1, emp, false, (lrnE e p.inc).2) else (e, emp, false, [])
/-- What becomes of a packet that comes. -/
def takE (e : Ed) (p : Pt) : Ed × ByteArray × Bool × List Pt :=
  if chkT p = false ∨ p.fr ≠ e.to ∨ p.to ≠ e.fr ∨ p.inc < e.ip then (e, emp, false, [])
  else if p.kd = 1 then takD e p else if p.kd = 2 then takA e p else if p.kd = 3 then takH e p else (e, p.bd, true, [])

/-- The reading says so. -/
def TakOk (e : Ed) (p : Pt) (r : Ed × ByteArray × Bool × List Pt) : Prop :=
  F T 17 [.agg (eEd e), .agg (ePt p)] [] = some (.tup [.agg (eEd r.1), .str r.2.1, .bool r.2.2.1, .own 0 0 r.2.2.2.length], [⟨44, 7, false, enc ePt r.2.2.2, 0⟩])

theorem tak_no (e : Ed) (p : Pt) (h : chkT p = false ∨ p.fr ≠ e.to ∨ p.to ≠ e.fr ∨ p.inc < e.ip) : TakOk e p (e, emp, false, []) := by
  have f0 := V_pchk p
  unfold TakOk
  obtain ⟨fr, to, inc, o, me, ip, la⟩ := e
  obtain ⟨k, pf, pt, pi, pp, ps, b⟩ := p
  simp only [] at h ⊢
  simp only [ePt] at f0
  refine F_W T17 ?_
  simp only [c17, c17_b, Lift.start, eEd, ePt]
  cases hc : chkT ⟨k, pf, pt, pi, pp, ps, b⟩
  · rw [hc] at f0
    repeat (first | refine W_assoc ?_ | (show W _ (.seq (.region _ _) _) _ _; refine W_reg (by simp; with_reducible rfl) ?_) | (show R _ _ _ (_ :: _) _ _ _ _; refine R_op (by simp (maxSteps := 2000000) [f0]; with_reducible rfl) ?_) | (show R _ _ _ [] _ _ _ _; refine R_nil (by simp; with_reducible rfl) ?_) | (show W _ (.seq (.cond _ _ _) _) _ _; first | refine W_ct (by first | (simp [f0]; done) | fail) ?_ | refine W_cf (by first | (simp [f0]; done) | fail) ?_) | refine W_skip ?_ | refine W_bl (c := .seq _ _) ?_ | refine W_bl (c := .region _ _) ?_ | refine W_bl (c := .cond _ _ _) ?_ | refine W_bl (c := .block _ _) ?_ | refine W_rt ?_ | refine W_ex ?_ | refine W_end ?_ | refine W_tail (a := .region _ _) ?_ | refine W_tail (a := .cond _ _ _) ?_ | refine W_tail (a := .ret) ?_ | refine W_tail (a := .exit _) ?_ | refine W_tail (a := .block _ _) ?_ | refine QB_normal ?_ | refine QB_exit ?_ | refine QB_ret ?_ | refine QB_out (by decide) ?_ | refine QL_next ?_ | refine QL_exit ?_ | refine QL_ret ?_ | refine QL_out (by decide) ?_ | (show Fin _ _ .ret _; exact Fin_ret (by first | (simp [c17]; done) | (simp [c17]; with_reducible rfl))) | (show Fin _ _ .normal _; exact Fin_end (by first | (simp [c17]; done) | (simp [c17]; with_reducible rfl))))
  rw [hc] at f0
  have h := h.resolve_left (by rw [hc]; simp)
  by_cases h1 : pf = to
  · subst h1
    by_cases h2 : pt = fr
    · subst h2
      have h3 : pi < ip := by
        rcases h with h | h | h
        · exact absurd rfl h
        · exact absurd rfl h
        · exact h
      repeat (first | refine W_assoc ?_ | (show W _ (.seq (.region _ _) _) _ _; refine W_reg (by simp; with_reducible rfl) ?_) | (show R _ _ _ (_ :: _) _ _ _ _; refine R_op (by simp (maxSteps := 2000000) [f0, h3]; with_reducible rfl) ?_) | (show R _ _ _ [] _ _ _ _; refine R_nil (by simp; with_reducible rfl) ?_) | (show W _ (.seq (.cond _ _ _) _) _ _; first | refine W_ct (by first | (simp [f0, h3]; done) | fail) ?_ | refine W_cf (by first | (simp [f0, h3]; done) | fail) ?_) | refine W_skip ?_ | refine W_bl (c := .seq _ _) ?_ | refine W_bl (c := .region _ _) ?_ | refine W_bl (c := .cond _ _ _) ?_ | refine W_bl (c := .block _ _) ?_ | refine W_rt ?_ | refine W_ex ?_ | refine W_end ?_ | refine W_tail (a := .region _ _) ?_ | refine W_tail (a := .cond _ _ _) ?_ | refine W_tail (a := .ret) ?_ | refine W_tail (a := .exit _) ?_ | refine W_tail (a := .block _ _) ?_ | refine QB_normal ?_ | refine QB_exit ?_ | refine QB_ret ?_ | refine QB_out (by decide) ?_ | refine QL_next ?_ | refine QL_exit ?_ | refine QL_ret ?_ | refine QL_out (by decide) ?_ | (show Fin _ _ .ret _; exact Fin_ret (by first | (simp [c17]; done) | (simp [c17]; with_reducible rfl))) | (show Fin _ _ .normal _; exact Fin_end (by first | (simp [c17]; done) | (simp [c17]; with_reducible rfl))))
    · repeat (first | refine W_assoc ?_ | (show W _ (.seq (.region _ _) _) _ _; refine W_reg (by simp; with_reducible rfl) ?_) | (show R _ _ _ (_ :: _) _ _ _ _; refine R_op (by simp (maxSteps := 2000000) [f0, h2]; with_reducible rfl) ?_) | (show R _ _ _ [] _ _ _ _; refine R_nil (by simp; with_reducible rfl) ?_) | (show W _ (.seq (.cond _ _ _) _) _ _; first | refine W_ct (by first | (simp [f0, h2]; done) | fail) ?_ | refine W_cf (by first | (simp [f0, h2]; done) | fail) ?_) | refine W_skip ?_ | refine W_bl (c := .seq _ _) ?_ | refine W_bl (c := .region _ _) ?_ | refine W_bl (c := .cond _ _ _) ?_ | refine W_bl (c := .block _ _) ?_ | refine W_rt ?_ | refine W_ex ?_ | refine W_end ?_ | refine W_tail (a := .region _ _) ?_ | refine W_tail (a := .cond _ _ _) ?_ | refine W_tail (a := .ret) ?_ | refine W_tail (a := .exit _) ?_ | refine W_tail (a := .block _ _) ?_ | refine QB_normal ?_ | refine QB_exit ?_ | refine QB_ret ?_ | refine QB_out (by decide) ?_ | refine QL_next ?_ | refine QL_exit ?_ | refine QL_ret ?_ | refine QL_out (by decide) ?_ | (show Fin _ _ .ret _; exact Fin_ret (by first | (simp [c17]; done) | (simp [c17]; with_reducible rfl))) | (show Fin _ _ .normal _; exact Fin_end (by first | (simp [c17]; done) | (simp [c17]; with_reducible rfl))))
  · repeat (first | refine W_assoc ?_ | (show W _ (.seq (.region _ _) _) _ _; refine W_reg (by simp; with_reducible rfl) ?_) | (show R _ _ _ (_ :: _) _ _ _ _; refine R_op (by simp (maxSteps := 2000000) [f0, h1]; with_reducible rfl) ?_) | (show R _ _ _ [] _ _ _ _; refine R_nil (by simp; with_reducible rfl) ?_) | (show W _ (.seq (.cond _ _ _) _) _ _; first | refine W_ct (by first | (simp [f0, h1]; done) | fail) ?_ | refine W_cf (by first | (simp [f0, h1]; done) | fail) ?_) | refine W_skip ?_ | refine W_bl (c := .seq _ _) ?_ | refine W_bl (c := .region _ _) ?_ | refine W_bl (c := .cond _ _ _) ?_ | refine W_bl (c := .block _ _) ?_ | refine W_rt ?_ | refine W_ex ?_ | refine W_end ?_ | refine W_tail (a := .region _ _) ?_ | refine W_tail (a := .cond _ _ _) ?_ | refine W_tail (a := .ret) ?_ | refine W_tail (a := .exit _) ?_ | refine W_tail (a := .block _ _) ?_ | refine QB_normal ?_ | refine QB_exit ?_ | refine QB_ret ?_ | refine QB_out (by decide) ?_ | refine QL_next ?_ | refine QL_exit ?_ | refine QL_ret ?_ | refine QL_out (by decide) ?_ | (show Fin _ _ .ret _; exact Fin_ret (by first | (simp [c17]; done) | (simp [c17]; with_reducible rfl))) | (show Fin _ _ .normal _; exact Fin_end (by first | (simp [c17]; done) | (simp [c17]; with_reducible rfl))))

theorem tak_bare (e : Ed) (p : Pt) (hc : chkT p = true) (h1 : p.fr = e.to) (h2 : p.to = e.fr) (h3 : ¬ p.inc < e.ip) (k1 : ¬ p.kd = 1) (k2 : ¬ p.kd = 2) (k3 : ¬ p.kd = 3) : TakOk e p (e, p.bd, true, []) := by
  have f0 := V_pchk p
  rw [hc] at f0
  unfold TakOk
  obtain ⟨fr, to, inc, o, me, ip, la⟩ := e
  obtain ⟨k, pf, pt, pi, pp, ps, b⟩ := p
  simp only [] at h1 h2 h3 k1 k2 k3 ⊢
  simp only [ePt] at f0
  subst h1 h2
  refine F_W T17 ?_
  simp only [c17, c17_b, Lift.start, eEd, ePt]
  repeat (first | refine W_assoc ?_ | (show W _ (.seq (.region _ _) _) _ _; refine W_reg (by simp; with_reducible rfl) ?_) | (show R _ _ _ (_ :: _) _ _ _ _; refine R_op (by simp (maxSteps := 2000000) [f0, h3, k1, k2, k3]; with_reducible rfl) ?_) | (show R _ _ _ [] _ _ _ _; refine R_nil (by simp; with_reducible rfl) ?_) | (show W _ (.seq (.cond _ _ _) _) _ _; first | refine W_ct (by first | (simp [f0, h3, k1, k2, k3]; done) | fail) ?_ | refine W_cf (by first | (simp [f0, h3, k1, k2, k3]; done) | fail) ?_) | refine W_skip ?_ | refine W_bl (c := .seq _ _) ?_ | refine W_bl (c := .region _ _) ?_ | refine W_bl (c := .cond _ _ _) ?_ | refine W_bl (c := .block _ _) ?_ | refine W_rt ?_ | refine W_ex ?_ | refine W_end ?_ | refine W_tail (a := .region _ _) ?_ | refine W_tail (a := .cond _ _ _) ?_ | refine W_tail (a := .ret) ?_ | refine W_tail (a := .exit _) ?_ | refine W_tail (a := .block _ _) ?_ | refine QB_normal ?_ | refine QB_exit ?_ | refine QB_ret ?_ | refine QB_out (by decide) ?_ | refine QL_next ?_ | refine QL_exit ?_ | refine QL_ret ?_ | refine QL_out (by decide) ?_ | (show Fin _ _ .ret _; exact Fin_ret (by first | (simp [c17]; done) | (simp [c17]; with_reducible rfl))) | (show Fin _ _ .normal _; exact Fin_end (by first | (simp [c17]; done) | (simp [c17]; with_reducible rfl))))

theorem tak_hello (e : Ed) (p : Pt) (hS : e.o.tx.length ≤ 10000) (hc : chkT p = true) (h1 : p.fr = e.to) (h2 : p.to = e.fr) (h3 : ¬ p.inc < e.ip) (hk : p.kd = 3) : TakOk e p (takH e p) := by
  have f0 := V_pchk p
  have f1 := F_lrnE e p.inc hS
  rw [hc] at f0
  unfold TakOk takH
  generalize lrnE e p.inc = r at *
  obtain ⟨r1, l⟩ := r
  obtain ⟨fr, to, inc, o, me, ip, la⟩ := e
  obtain ⟨k, pf, pt, pi, pp, ps, b⟩ := p
  simp only [] at h1 h2 h3 hk f1 ⊢
  simp only [ePt, eEd] at f0 f1
  subst h1 h2 hk
  refine F_W T17 ?_
  simp only [c17, c17_b, Lift.start, eEd, ePt]
  by_cases h4 : pp ≤ inc
  · rw [if_pos h4]
    repeat (first | refine W_assoc ?_ | (show W _ (.seq (.region _ _) _) _ _; refine W_reg (by simp; with_reducible rfl) ?_) | (show R _ _ _ (_ :: _) _ _ _ _; refine R_op (by simp (maxSteps := 2000000) [f0, f1, h3, h4]; with_reducible rfl) ?_) | (show R _ _ _ [] _ _ _ _; refine R_nil (by simp; with_reducible rfl) ?_) | (show W _ (.seq (.cond _ _ _) _) _ _; first | refine W_ct (by first | (simp [f0, f1, h3, h4]; done) | fail) ?_ | refine W_cf (by first | (simp [f0, f1, h3, h4]; done) | fail) ?_) | refine W_skip ?_ | refine W_bl (c := .seq _ _) ?_ | refine W_bl (c := .region _ _) ?_ | refine W_bl (c := .cond _ _ _) ?_ | refine W_bl (c := .block _ _) ?_ | refine W_rt ?_ | refine W_ex ?_ | refine W_end ?_ | refine W_tail (a := .region _ _) ?_ | refine W_tail (a := .cond _ _ _) ?_ | refine W_tail (a := .ret) ?_ | refine W_tail (a := .exit _) ?_ | refine W_tail (a := .block _ _) ?_ | refine QB_normal ?_ | refine QB_exit ?_ | refine QB_ret ?_ | refine QB_out (by decide) ?_ | refine QL_next ?_ | refine QL_exit ?_ | refine QL_ret ?_ | refine QL_out (by decide) ?_ | (show Fin _ _ .ret _; exact Fin_ret (by first | (simp [c17]; done) | (simp [c17]; with_reducible rfl))) | (show Fin _ _ .normal _; exact Fin_end (by first | (simp [c17]; done) | (simp [c17]; with_reducible rfl))))
  · rw [if_neg h4]
    repeat (first | refine W_assoc ?_ | (show W _ (.seq (.region _ _) _) _ _; refine W_reg (by simp; with_reducible rfl) ?_) | (show R _ _ _ (_ :: _) _ _ _ _; refine R_op (by simp (maxSteps := 2000000) [f0, h3, h4]; with_reducible rfl) ?_) | (show R _ _ _ [] _ _ _ _; refine R_nil (by simp; with_reducible rfl) ?_) | (show W _ (.seq (.cond _ _ _) _) _ _; first | refine W_ct (by first | (simp [f0, h3, h4]; done) | fail) ?_ | refine W_cf (by first | (simp [f0, h3, h4]; done) | fail) ?_) | refine W_skip ?_ | refine W_bl (c := .seq _ _) ?_ | refine W_bl (c := .region _ _) ?_ | refine W_bl (c := .cond _ _ _) ?_ | refine W_bl (c := .block _ _) ?_ | refine W_rt ?_ | refine W_ex ?_ | refine W_end ?_ | refine W_tail (a := .region _ _) ?_ | refine W_tail (a := .cond _ _ _) ?_ | refine W_tail (a := .ret) ?_ | refine W_tail (a := .exit _) ?_ | refine W_tail (a := .block _ _) ?_ | refine QB_normal ?_ | refine QB_exit ?_ | refine QB_ret ?_ | refine QB_out (by decide) ?_ | refine QL_next ?_ | refine QL_exit ?_ | refine QL_ret ?_ | refine QL_out (by decide) ?_ | (show Fin _ _ .ret _; exact Fin_ret (by first | (simp [c17]; done) | (simp [c17]; with_reducible rfl))) | (show Fin _ _ .normal _; exact Fin_end (by first | (simp [c17]; done) | (simp [c17]; with_reducible rfl))))

theorem tak_ack (e : Ed) (p : Pt) (hS : e.o.tx.length ≤ 10000) (hc : chkT p = true) (h1 : p.fr = e.to) (h2 : p.to = e.fr) (h3 : ¬ p.inc < e.ip) (hk : p.kd = 2) : TakOk e p (takA e p) := by
  have f0 := V_pchk p
  have f1 := F_lrnE e p.inc hS
  rw [hc] at f0
  unfold TakOk takA
  simp only []
  have hl : (lrnE e p.inc).1.o.tx.length ≤ 10000 := by show (lrnO e.o p.inc).1.tx.length ≤ _; rw [lrnO_tx]; exact hS
  have hd : ∃ s, (lrnE e p.inc).2 = datL (lrnE e p.inc).1 s := ⟨(lrnO e.o p.inc).2, rfl⟩
  generalize lrnE e p.inc = r at *
  obtain ⟨r1, l⟩ := r
  obtain ⟨s, hd⟩ := hd
  simp only [] at hl hd f1
  have f2 := V_ackO r1.o p.inc p.sq (by omega)
  have hal : (ackO r1.o p.inc p.sq).1.tx.length ≤ 10000 := by
    unfold ackO
    split
    · exact hl
    · split
      · simp
      · simp; omega
  generalize ackO r1.o p.inc p.sq = a at *
  obtain ⟨o', s2⟩ := a
  simp only [] at f2 hal
  have f3 := V_data { r1 with o := o' } s2 (by simp only []; omega)
  obtain ⟨fr, to, inc, o, me, ip, la⟩ := e
  obtain ⟨k, pf, pt, pi, pp, ps, b⟩ := p
  obtain ⟨xf, xt, xi, xo, xm, xp, xl⟩ := r1
  simp only [] at h1 h2 h3 hk f1 f2 f3 ⊢
  simp only [ePt, eEd, eOu] at f0 f1 f2 f3
  subst h1 h2 hk
  refine F_W T17 ?_
  simp only [c17, c17_b, Lift.start, eEd, ePt]
  by_cases h4 : pp = inc
  · rw [if_neg (by simp [h4])]
    subst hd h4
    cases s
    · cases s2
      · simp only [datL, Bool.false_eq_true, if_false, enc_nil, List.length_nil] at f1 f3 ⊢
        repeat (first | refine W_assoc ?_ | (show W _ (.seq (.region _ _) _) _ _; refine W_reg (by simp; with_reducible rfl) ?_) | (show R _ _ _ (_ :: _) _ _ _ _; refine R_op (by simp (maxSteps := 2000000) [f0, f1, f2, f3, h3]; with_reducible rfl) ?_) | (show R _ _ _ [] _ _ _ _; refine R_nil (by simp; with_reducible rfl) ?_) | (show W _ (.seq (.cond _ _ _) _) _ _; first | refine W_ct (by first | (simp [f0, f1, f2, f3, h3]; done) | fail) ?_ | refine W_cf (by first | (simp [f0, f1, f2, f3, h3]; done) | fail) ?_) | refine W_skip ?_ | refine W_bl (c := .seq _ _) ?_ | refine W_bl (c := .region _ _) ?_ | refine W_bl (c := .cond _ _ _) ?_ | refine W_bl (c := .block _ _) ?_ | refine W_rt ?_ | refine W_ex ?_ | refine W_end ?_ | refine W_tail (a := .region _ _) ?_ | refine W_tail (a := .cond _ _ _) ?_ | refine W_tail (a := .ret) ?_ | refine W_tail (a := .exit _) ?_ | refine W_tail (a := .block _ _) ?_ | refine QB_normal ?_ | refine QB_exit ?_ | refine QB_ret ?_ | refine QB_out (by decide) ?_ | refine QL_next ?_ | refine QL_exit ?_ | refine QL_ret ?_ | refine QL_out (by decide) ?_ | (show Fin _ _ .ret _; exact Fin_ret (by first | (simp [c17]; done) | (simp [c17]; with_reducible rfl))) | (show Fin _ _ .normal _; exact Fin_end (by first | (simp [c17]; done) | (simp [c17]; with_reducible rfl))))
      · simp only [datL, Bool.false_eq_true, if_false, if_true, enc_nil, List.length_nil] at f1 f3 ⊢
        repeat (first | refine W_assoc ?_ | (show W _ (.seq (.region _ _) _) _ _; refine W_reg (by simp; with_reducible rfl) ?_) | (show R _ _ _ (_ :: _) _ _ _ _; refine R_op (by simp (maxSteps := 2000000) [f0, f1, f2, f3, h3]; with_reducible rfl) ?_) | (show R _ _ _ [] _ _ _ _; refine R_nil (by simp; with_reducible rfl) ?_) | (show W _ (.seq (.cond _ _ _) _) _ _; first | refine W_ct (by first | (simp [f0, f1, f2, f3, h3]; done) | fail) ?_ | refine W_cf (by first | (simp [f0, f1, f2, f3, h3]; done) | fail) ?_) | refine W_skip ?_ | refine W_bl (c := .seq _ _) ?_ | refine W_bl (c := .region _ _) ?_ | refine W_bl (c := .cond _ _ _) ?_ | refine W_bl (c := .block _ _) ?_ | refine W_rt ?_ | refine W_ex ?_ | refine W_end ?_ | refine W_tail (a := .region _ _) ?_ | refine W_tail (a := .cond _ _ _) ?_ | refine W_tail (a := .ret) ?_ | refine W_tail (a := .exit _) ?_ | refine W_tail (a := .block _ _) ?_ | refine QB_normal ?_ | refine QB_exit ?_ | refine QB_ret ?_ | refine QB_out (by decide) ?_ | refine QL_next ?_ | refine QL_exit ?_ | refine QL_ret ?_ | refine QL_out (by decide) ?_ | (show Fin _ _ .ret _; exact Fin_ret (by first | (simp [c17]; done) | (simp [c17]; with_reducible rfl))) | (show Fin _ _ .normal _; exact Fin_end (by first | (simp [c17]; done) | (simp [c17]; with_reducible rfl))))
    · cases s2
      · simp only [datL, Bool.false_eq_true, if_false, if_true, enc_nil, List.length_nil] at f1 f3 ⊢
        repeat (first | refine W_assoc ?_ | (show W _ (.seq (.region _ _) _) _ _; refine W_reg (by simp; with_reducible rfl) ?_) | (show R _ _ _ (_ :: _) _ _ _ _; refine R_op (by simp (maxSteps := 2000000) [f0, f1, f2, f3, h3]; with_reducible rfl) ?_) | (show R _ _ _ [] _ _ _ _; refine R_nil (by simp; with_reducible rfl) ?_) | (show W _ (.seq (.cond _ _ _) _) _ _; first | refine W_ct (by first | (simp [f0, f1, f2, f3, h3]; done) | fail) ?_ | refine W_cf (by first | (simp [f0, f1, f2, f3, h3]; done) | fail) ?_) | refine W_skip ?_ | refine W_bl (c := .seq _ _) ?_ | refine W_bl (c := .region _ _) ?_ | refine W_bl (c := .cond _ _ _) ?_ | refine W_bl (c := .block _ _) ?_ | refine W_rt ?_ | refine W_ex ?_ | refine W_end ?_ | refine W_tail (a := .region _ _) ?_ | refine W_tail (a := .cond _ _ _) ?_ | refine W_tail (a := .ret) ?_ | refine W_tail (a := .exit _) ?_ | refine W_tail (a := .block _ _) ?_ | refine QB_normal ?_ | refine QB_exit ?_ | refine QB_ret ?_ | refine QB_out (by decide) ?_ | refine QL_next ?_ | refine QL_exit ?_ | refine QL_ret ?_ | refine QL_out (by decide) ?_ | (show Fin _ _ .ret _; exact Fin_ret (by first | (simp [c17]; done) | (simp [c17]; with_reducible rfl))) | (show Fin _ _ .normal _; exact Fin_end (by first | (simp [c17]; done) | (simp [c17]; with_reducible rfl))))
      · simp only [datL, Bool.false_eq_true, if_false, if_true, enc_nil, List.length_nil] at f1 f3 ⊢
        repeat (first | refine W_assoc ?_ | (show W _ (.seq (.region _ _) _) _ _; refine W_reg (by simp; with_reducible rfl) ?_) | (show R _ _ _ (_ :: _) _ _ _ _; refine R_op (by simp (maxSteps := 2000000) [f0, f1, f2, f3, h3]; with_reducible rfl) ?_) | (show R _ _ _ [] _ _ _ _; refine R_nil (by simp; with_reducible rfl) ?_) | (show W _ (.seq (.cond _ _ _) _) _ _; first | refine W_ct (by first | (simp [f0, f1, f2, f3, h3]; done) | fail) ?_ | refine W_cf (by first | (simp [f0, f1, f2, f3, h3]; done) | fail) ?_) | refine W_skip ?_ | refine W_bl (c := .seq _ _) ?_ | refine W_bl (c := .region _ _) ?_ | refine W_bl (c := .cond _ _ _) ?_ | refine W_bl (c := .block _ _) ?_ | refine W_rt ?_ | refine W_ex ?_ | refine W_end ?_ | refine W_tail (a := .region _ _) ?_ | refine W_tail (a := .cond _ _ _) ?_ | refine W_tail (a := .ret) ?_ | refine W_tail (a := .exit _) ?_ | refine W_tail (a := .block _ _) ?_ | refine QB_normal ?_ | refine QB_exit ?_ | refine QB_ret ?_ | refine QB_out (by decide) ?_ | refine QL_next ?_ | refine QL_exit ?_ | refine QL_ret ?_ | refine QL_out (by decide) ?_ | (show Fin _ _ .ret _; exact Fin_ret (by first | (simp [c17]; done) | (simp [c17]; with_reducible rfl))) | (show Fin _ _ .normal _; exact Fin_end (by first | (simp [c17]; done) | (simp [c17]; with_reducible rfl))))
  · rw [if_pos h4]
    repeat (first | refine W_assoc ?_ | (show W _ (.seq (.region _ _) _) _ _; refine W_reg (by simp; with_reducible rfl) ?_) | (show R _ _ _ (_ :: _) _ _ _ _; refine R_op (by simp (maxSteps := 2000000) [f0, h3, h4]; with_reducible rfl) ?_) | (show R _ _ _ [] _ _ _ _; refine R_nil (by simp; with_reducible rfl) ?_) | (show W _ (.seq (.cond _ _ _) _) _ _; first | refine W_ct (by first | (simp [f0, h3, h4]; done) | fail) ?_ | refine W_cf (by first | (simp [f0, h3, h4]; done) | fail) ?_) | refine W_skip ?_ | refine W_bl (c := .seq _ _) ?_ | refine W_bl (c := .region _ _) ?_ | refine W_bl (c := .cond _ _ _) ?_ | refine W_bl (c := .block _ _) ?_ | refine W_rt ?_ | refine W_ex ?_ | refine W_end ?_ | refine W_tail (a := .region _ _) ?_ | refine W_tail (a := .cond _ _ _) ?_ | refine W_tail (a := .ret) ?_ | refine W_tail (a := .exit _) ?_ | refine W_tail (a := .block _ _) ?_ | refine QB_normal ?_ | refine QB_exit ?_ | refine QB_ret ?_ | refine QB_out (by decide) ?_ | refine QL_next ?_ | refine QL_exit ?_ | refine QL_ret ?_ | refine QL_out (by decide) ?_ | (show Fin _ _ .ret _; exact Fin_ret (by first | (simp [c17]; done) | (simp [c17]; with_reducible rfl))) | (show Fin _ _ .normal _; exact Fin_end (by first | (simp [c17]; done) | (simp [c17]; with_reducible rfl))))

theorem tak_data (e : Ed) (p : Pt) (hS : e.o.tx.length ≤ 10000) (hc : chkT p = true) (h1 : p.fr = e.to) (h2 : p.to = e.fr) (h3 : ¬ p.inc < e.ip) (hk : p.kd = 1) : TakOk e p (takD e p) := by
  have f0 := V_pchk p
  have f1 := F_lrnE e p.inc hS
  rw [hc] at f0
  unfold TakOk takD
  simp only []
  have hd : ∃ s, (lrnE e p.inc).2 = datL (lrnE e p.inc).1 s := ⟨(lrnO e.o p.inc).2, rfl⟩
  generalize lrnE e p.inc = r at *
  obtain ⟨r1, l⟩ := r
  obtain ⟨s, hd⟩ := hd
  simp only [] at hd f1
  have f2 := V_gtake r1.me r1.ip r1.la p.inc p.pe p.sq
  simp only []
  generalize gTake r1.me r1.ip r1.la p.inc p.pe p.sq = g at *
  obtain ⟨⟨g1, g2, g3⟩, c⟩ := g
  simp only [] at f2
  have f3 := fun k q => V_answer (r1.gate (g1, g2, g3)) k p q
  obtain ⟨fr, to, inc, o, me, ip, la⟩ := e
  obtain ⟨k, pf, pt, pi, pp, ps, b⟩ := p
  obtain ⟨xf, xt, xi, xo, xm, xp, xl⟩ := r1
  simp only [Ed.gate, ans] at h1 h2 h3 hk hd f1 f2 f3 ⊢
  simp only [ePt, eEd, eOu] at f0 f1 f2 f3
  subst h1 h2 hk hd
  refine F_W T17 ?_
  simp only [c17, c17_b, Lift.start, eEd, ePt]
  by_cases c1 : c = 1
  · subst c1
    simp only [if_true]
    cases s
    · simp only [datL, Bool.false_eq_true, if_false, enc_nil, List.length_nil] at f1 ⊢
      repeat (first | refine W_assoc ?_ | (show W _ (.seq (.region _ _) _) _ _; refine W_reg (by simp; with_reducible rfl) ?_) | (show R _ _ _ (_ :: _) _ _ _ _; refine R_op (by simp (maxSteps := 2000000) [f0, f1, f2, f3, h3]; with_reducible rfl) ?_) | (show R _ _ _ [] _ _ _ _; refine R_nil (by simp; with_reducible rfl) ?_) | (show W _ (.seq (.cond _ _ _) _) _ _; first | refine W_ct (by first | (simp [f0, f1, f2, f3, h3]; done) | fail) ?_ | refine W_cf (by first | (simp [f0, f1, f2, f3, h3]; done) | fail) ?_) | refine W_skip ?_ | refine W_bl (c := .seq _ _) ?_ | refine W_bl (c := .region _ _) ?_ | refine W_bl (c := .cond _ _ _) ?_ | refine W_bl (c := .block _ _) ?_ | refine W_rt ?_ | refine W_ex ?_ | refine W_end ?_ | refine W_tail (a := .region _ _) ?_ | refine W_tail (a := .cond _ _ _) ?_ | refine W_tail (a := .ret) ?_ | refine W_tail (a := .exit _) ?_ | refine W_tail (a := .block _ _) ?_ | refine QB_normal ?_ | refine QB_exit ?_ | refine QB_ret ?_ | refine QB_out (by decide) ?_ | refine QL_next ?_ | refine QL_exit ?_ | refine QL_ret ?_ | refine QL_out (by decide) ?_ | (show Fin _ _ .ret _; exact Fin_ret (by first | (simp [c17]; done) | (simp [c17]; with_reducible rfl))) | (show Fin _ _ .normal _; exact Fin_end (by first | (simp [c17]; done) | (simp [c17]; with_reducible rfl))))
    · simp only [datL, if_true] at f1 ⊢
      repeat (first | refine W_assoc ?_ | (show W _ (.seq (.region _ _) _) _ _; refine W_reg (by simp; with_reducible rfl) ?_) | (show R _ _ _ (_ :: _) _ _ _ _; refine R_op (by simp (maxSteps := 2000000) [f0, f1, f2, f3, h3]; with_reducible rfl) ?_) | (show R _ _ _ [] _ _ _ _; refine R_nil (by simp; with_reducible rfl) ?_) | (show W _ (.seq (.cond _ _ _) _) _ _; first | refine W_ct (by first | (simp [f0, f1, f2, f3, h3]; done) | fail) ?_ | refine W_cf (by first | (simp [f0, f1, f2, f3, h3]; done) | fail) ?_) | refine W_skip ?_ | refine W_bl (c := .seq _ _) ?_ | refine W_bl (c := .region _ _) ?_ | refine W_bl (c := .cond _ _ _) ?_ | refine W_bl (c := .block _ _) ?_ | refine W_rt ?_ | refine W_ex ?_ | refine W_end ?_ | refine W_tail (a := .region _ _) ?_ | refine W_tail (a := .cond _ _ _) ?_ | refine W_tail (a := .ret) ?_ | refine W_tail (a := .exit _) ?_ | refine W_tail (a := .block _ _) ?_ | refine QB_normal ?_ | refine QB_exit ?_ | refine QB_ret ?_ | refine QB_out (by decide) ?_ | refine QL_next ?_ | refine QL_exit ?_ | refine QL_ret ?_ | refine QL_out (by decide) ?_ | (show Fin _ _ .ret _; exact Fin_ret (by first | (simp [c17]; done) | (simp [c17]; with_reducible rfl))) | (show Fin _ _ .normal _; exact Fin_end (by first | (simp [c17]; done) | (simp [c17]; with_reducible rfl))))
  rw [if_neg c1]
  by_cases c2 : c = 2
  · subst c2
    simp only [if_true]
    cases s
    · simp only [datL, Bool.false_eq_true, if_false, enc_nil, List.length_nil] at f1 ⊢
      repeat (first | refine W_assoc ?_ | (show W _ (.seq (.region _ _) _) _ _; refine W_reg (by simp; with_reducible rfl) ?_) | (show R _ _ _ (_ :: _) _ _ _ _; refine R_op (by simp (maxSteps := 2000000) [f0, f1, f2, f3, h3]; with_reducible rfl) ?_) | (show R _ _ _ [] _ _ _ _; refine R_nil (by simp; with_reducible rfl) ?_) | (show W _ (.seq (.cond _ _ _) _) _ _; first | refine W_ct (by first | (simp [f0, f1, f2, f3, h3]; done) | fail) ?_ | refine W_cf (by first | (simp [f0, f1, f2, f3, h3]; done) | fail) ?_) | refine W_skip ?_ | refine W_bl (c := .seq _ _) ?_ | refine W_bl (c := .region _ _) ?_ | refine W_bl (c := .cond _ _ _) ?_ | refine W_bl (c := .block _ _) ?_ | refine W_rt ?_ | refine W_ex ?_ | refine W_end ?_ | refine W_tail (a := .region _ _) ?_ | refine W_tail (a := .cond _ _ _) ?_ | refine W_tail (a := .ret) ?_ | refine W_tail (a := .exit _) ?_ | refine W_tail (a := .block _ _) ?_ | refine QB_normal ?_ | refine QB_exit ?_ | refine QB_ret ?_ | refine QB_out (by decide) ?_ | refine QL_next ?_ | refine QL_exit ?_ | refine QL_ret ?_ | refine QL_out (by decide) ?_ | (show Fin _ _ .ret _; exact Fin_ret (by first | (simp [c17]; done) | (simp [c17]; with_reducible rfl))) | (show Fin _ _ .normal _; exact Fin_end (by first | (simp [c17]; done) | (simp [c17]; with_reducible rfl))))
    · simp only [datL, if_true] at f1 ⊢
      repeat (first | refine W_assoc ?_ | (show W _ (.seq (.region _ _) _) _ _; refine W_reg (by simp; with_reducible rfl) ?_) | (show R _ _ _ (_ :: _) _ _ _ _; refine R_op (by simp (maxSteps := 2000000) [f0, f1, f2, f3, h3]; with_reducible rfl) ?_) | (show R _ _ _ [] _ _ _ _; refine R_nil (by simp; with_reducible rfl) ?_) | (show W _ (.seq (.cond _ _ _) _) _ _; first | refine W_ct (by first | (simp [f0, f1, f2, f3, h3]; done) | fail) ?_ | refine W_cf (by first | (simp [f0, f1, f2, f3, h3]; done) | fail) ?_) | refine W_skip ?_ | refine W_bl (c := .seq _ _) ?_ | refine W_bl (c := .region _ _) ?_ | refine W_bl (c := .cond _ _ _) ?_ | refine W_bl (c := .block _ _) ?_ | refine W_rt ?_ | refine W_ex ?_ | refine W_end ?_ | refine W_tail (a := .region _ _) ?_ | refine W_tail (a := .cond _ _ _) ?_ | refine W_tail (a := .ret) ?_ | refine W_tail (a := .exit _) ?_ | refine W_tail (a := .block _ _) ?_ | refine QB_normal ?_ | refine QB_exit ?_ | refine QB_ret ?_ | refine QB_out (by decide) ?_ | refine QL_next ?_ | refine QL_exit ?_ | refine QL_ret ?_ | refine QL_out (by decide) ?_ | (show Fin _ _ .ret _; exact Fin_ret (by first | (simp [c17]; done) | (simp [c17]; with_reducible rfl))) | (show Fin _ _ .normal _; exact Fin_end (by first | (simp [c17]; done) | (simp [c17]; with_reducible rfl))))
  rw [if_neg c2]
  by_cases c3 : c = 3
  · subst c3
    simp only [if_true]
    cases s
    · simp only [datL, Bool.false_eq_true, if_false, enc_nil, List.length_nil] at f1 ⊢
      repeat (first | refine W_assoc ?_ | (show W _ (.seq (.region _ _) _) _ _; refine W_reg (by simp; with_reducible rfl) ?_) | (show R _ _ _ (_ :: _) _ _ _ _; refine R_op (by simp (maxSteps := 2000000) [f0, f1, f2, f3, h3]; with_reducible rfl) ?_) | (show R _ _ _ [] _ _ _ _; refine R_nil (by simp; with_reducible rfl) ?_) | (show W _ (.seq (.cond _ _ _) _) _ _; first | refine W_ct (by first | (simp [f0, f1, f2, f3, h3]; done) | fail) ?_ | refine W_cf (by first | (simp [f0, f1, f2, f3, h3]; done) | fail) ?_) | refine W_skip ?_ | refine W_bl (c := .seq _ _) ?_ | refine W_bl (c := .region _ _) ?_ | refine W_bl (c := .cond _ _ _) ?_ | refine W_bl (c := .block _ _) ?_ | refine W_rt ?_ | refine W_ex ?_ | refine W_end ?_ | refine W_tail (a := .region _ _) ?_ | refine W_tail (a := .cond _ _ _) ?_ | refine W_tail (a := .ret) ?_ | refine W_tail (a := .exit _) ?_ | refine W_tail (a := .block _ _) ?_ | refine QB_normal ?_ | refine QB_exit ?_ | refine QB_ret ?_ | refine QB_out (by decide) ?_ | refine QL_next ?_ | refine QL_exit ?_ | refine QL_ret ?_ | refine QL_out (by decide) ?_ | (show Fin _ _ .ret _; exact Fin_ret (by first | (simp [c17]; done) | (simp [c17]; with_reducible rfl))) | (show Fin _ _ .normal _; exact Fin_end (by first | (simp [c17]; done) | (simp [c17]; with_reducible rfl))))
    · simp only [datL, if_true] at f1 ⊢
      repeat (first | refine W_assoc ?_ | (show W _ (.seq (.region _ _) _) _ _; refine W_reg (by simp; with_reducible rfl) ?_) | (show R _ _ _ (_ :: _) _ _ _ _; refine R_op (by simp (maxSteps := 2000000) [f0, f1, f2, f3, h3]; with_reducible rfl) ?_) | (show R _ _ _ [] _ _ _ _; refine R_nil (by simp; with_reducible rfl) ?_) | (show W _ (.seq (.cond _ _ _) _) _ _; first | refine W_ct (by first | (simp [f0, f1, f2, f3, h3]; done) | fail) ?_ | refine W_cf (by first | (simp [f0, f1, f2, f3, h3]; done) | fail) ?_) | refine W_skip ?_ | refine W_bl (c := .seq _ _) ?_ | refine W_bl (c := .region _ _) ?_ | refine W_bl (c := .cond _ _ _) ?_ | refine W_bl (c := .block _ _) ?_ | refine W_rt ?_ | refine W_ex ?_ | refine W_end ?_ | refine W_tail (a := .region _ _) ?_ | refine W_tail (a := .cond _ _ _) ?_ | refine W_tail (a := .ret) ?_ | refine W_tail (a := .exit _) ?_ | refine W_tail (a := .block _ _) ?_ | refine QB_normal ?_ | refine QB_exit ?_ | refine QB_ret ?_ | refine QB_out (by decide) ?_ | refine QL_next ?_ | refine QL_exit ?_ | refine QL_ret ?_ | refine QL_out (by decide) ?_ | (show Fin _ _ .ret _; exact Fin_ret (by first | (simp [c17]; done) | (simp [c17]; with_reducible rfl))) | (show Fin _ _ .normal _; exact Fin_end (by first | (simp [c17]; done) | (simp [c17]; with_reducible rfl))))
  rw [if_neg c3]
  cases s
  · simp only [datL, Bool.false_eq_true, if_false, enc_nil, List.length_nil] at f1 ⊢
    repeat (first | refine W_assoc ?_ | (show W _ (.seq (.region _ _) _) _ _; refine W_reg (by simp; with_reducible rfl) ?_) | (show R _ _ _ (_ :: _) _ _ _ _; refine R_op (by simp (maxSteps := 2000000) [f0, f1, f2, f3, h3, c1, c2, c3]; with_reducible rfl) ?_) | (show R _ _ _ [] _ _ _ _; refine R_nil (by simp; with_reducible rfl) ?_) | (show W _ (.seq (.cond _ _ _) _) _ _; first | refine W_ct (by first | (simp [f0, f1, f2, f3, h3, c1, c2, c3]; done) | fail) ?_ | refine W_cf (by first | (simp [f0, f1, f2, f3, h3, c1, c2, c3]; done) | fail) ?_) | refine W_skip ?_ | refine W_bl (c := .seq _ _) ?_ | refine W_bl (c := .region _ _) ?_ | refine W_bl (c := .cond _ _ _) ?_ | refine W_bl (c := .block _ _) ?_ | refine W_rt ?_ | refine W_ex ?_ | refine W_end ?_ | refine W_tail (a := .region _ _) ?_ | refine W_tail (a := .cond _ _ _) ?_ | refine W_tail (a := .ret) ?_ | refine W_tail (a := .exit _) ?_ | refine W_tail (a := .block _ _) ?_ | refine QB_normal ?_ | refine QB_exit ?_ | refine QB_ret ?_ | refine QB_out (by decide) ?_ | refine QL_next ?_ | refine QL_exit ?_ | refine QL_ret ?_ | refine QL_out (by decide) ?_ | (show Fin _ _ .ret _; exact Fin_ret (by first | (simp [c17]; done) | (simp [c17]; with_reducible rfl))) | (show Fin _ _ .normal _; exact Fin_end (by first | (simp [c17]; done) | (simp [c17]; with_reducible rfl))))
  · simp only [datL, if_true] at f1 ⊢
    repeat (first | refine W_assoc ?_ | (show W _ (.seq (.region _ _) _) _ _; refine W_reg (by simp; with_reducible rfl) ?_) | (show R _ _ _ (_ :: _) _ _ _ _; refine R_op (by simp (maxSteps := 2000000) [f0, f1, f2, f3, h3, c1, c2, c3]; with_reducible rfl) ?_) | (show R _ _ _ [] _ _ _ _; refine R_nil (by simp; with_reducible rfl) ?_) | (show W _ (.seq (.cond _ _ _) _) _ _; first | refine W_ct (by first | (simp [f0, f1, f2, f3, h3, c1, c2, c3]; done) | fail) ?_ | refine W_cf (by first | (simp [f0, f1, f2, f3, h3, c1, c2, c3]; done) | fail) ?_) | refine W_skip ?_ | refine W_bl (c := .seq _ _) ?_ | refine W_bl (c := .region _ _) ?_ | refine W_bl (c := .cond _ _ _) ?_ | refine W_bl (c := .block _ _) ?_ | refine W_rt ?_ | refine W_ex ?_ | refine W_end ?_ | refine W_tail (a := .region _ _) ?_ | refine W_tail (a := .cond _ _ _) ?_ | refine W_tail (a := .ret) ?_ | refine W_tail (a := .exit _) ?_ | refine W_tail (a := .block _ _) ?_ | refine QB_normal ?_ | refine QB_exit ?_ | refine QB_ret ?_ | refine QB_out (by decide) ?_ | refine QL_next ?_ | refine QL_exit ?_ | refine QL_ret ?_ | refine QL_out (by decide) ?_ | (show Fin _ _ .ret _; exact Fin_ret (by first | (simp [c17]; done) | (simp [c17]; with_reducible rfl))) | (show Fin _ _ .normal _; exact Fin_end (by first | (simp [c17]; done) | (simp [c17]; with_reducible rfl))))

theorem F_takE (e : Ed) (p : Pt) (hS : e.o.tx.length ≤ 10000) : TakOk e p (takE e p) := by
  unfold takE
  by_cases h : chkT p = false ∨ p.fr ≠ e.to ∨ p.to ≠ e.fr ∨ p.inc < e.ip
  · rw [if_pos h]; exact tak_no e p h
  rw [if_neg h]
  have hc : chkT p = true := by
    cases hc : chkT p
    · exact absurd (.inl hc) h
    · rfl
  have h1 : p.fr = e.to := Decidable.byContradiction fun h1 => h (.inr (.inl h1))
  have h2 : p.to = e.fr := Decidable.byContradiction fun h1 => h (.inr (.inr (.inl h1)))
  have h3 : ¬ p.inc < e.ip := fun h1 => h (.inr (.inr (.inr h1)))
  by_cases k1 : p.kd = 1
  · rw [if_pos k1]; exact tak_data e p hS hc h1 h2 h3 k1
  rw [if_neg k1]
  by_cases k2 : p.kd = 2
  · rw [if_pos k2]; exact tak_ack e p hS hc h1 h2 h3 k2
  rw [if_neg k2]
  by_cases k3 : p.kd = 3
  · rw [if_pos k3]; exact tak_hello e p hS hc h1 h2 h3 k3
  rw [if_neg k3]
  exact tak_bare e p hc h1 h2 h3 k1 k2 k3

theorem V_takE (e : Ed) (p : Pt) (hS : e.o.tx.length ≤ 10000) :
    FV (F T) 17 [.agg (eEd e), .agg (ePt p)] = some (.tup [.agg (eEd (takE e p).1), .str (takE e p).2.1, .bool (takE e p).2.2.1, .ro 7 (enc ePt (takE e p).2.2.2) false]) := by
  have h := F_takE e p hS
  unfold TakOk at h
  simpa using FV_of h

end Go.Proofs.Ytjpccbjgmogclaa.Link
