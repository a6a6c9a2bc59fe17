/- Two ends of a talk: what the functions come to. -/
import Derived.Test.YtjpccbjgmogclaaSent2
import Derived.Test.YtjpccbjgmogclaaLPack
set_option linter.all false
set_option linter.unusedSimpArgs false
set_option maxRecDepth 100000
set_option maxHeartbeats 4000000
namespace Go.Proofs.Ytjpccbjgmogclaa.Link
open Go Go.RowKit Go.Proofs.Ytjpccbjgmogclaa.Lift Go.Proofs.Ytjpccbjgmogclaa.TLK Go.Proofs.Ytjpccbjgmogclaa.Base Go.Proofs.Ytjpccbjgmogclaa Go.Proofs.Ytjpccbjgmogclaa.Sent

@[simp] theorem unf1_ro (s : Nat) (xs : List (List AV)) (f : Bool) : unf1 (.ro s xs f) = .ro s xs false := by cases f <;> rfl

/-- An outbox. -/
structure Ou where
  pe : Int
  sq : Int
  tx : List ByteArray
  wt : Int
  lf : Int

@[simp] def eOu (o : Ou) : List AV := [.int .i64 o.pe, .int .i64 o.sq, .ro 1 (enc eStr o.tx) false, .int .i64 o.wt, .int .i64 o.lf]

/-- An end. -/
structure Ed where
  fr : Int
  to : Int
  inc : Int
  o : Ou
  me : Int
  ip : Int
  la : Int

@[simp] def eEd (e : Ed) : List AV := [.int .i64 e.fr, .int .i64 e.to, .int .i64 e.inc, .int .i64 e.o.pe, .int .i64 e.o.sq, .ro 1 (enc eStr e.o.tx) false, .int .i64 e.o.wt, .int .i64 e.o.lf, .int .i64 e.me, .int .i64 e.ip, .int .i64 e.la]

/-- A packet. -/
structure Pt where
  kd : Int
  fr : Int
  to : Int
  inc : Int
  pe : Int
  sq : Int
  bd : ByteArray

@[simp] def ePt (p : Pt) : List AV := [.int .i64 p.kd, .int .i64 p.fr, .int .i64 p.to, .int .i64 p.inc, .int .i64 p.pe, .int .i64 p.sq, .str p.bd]
instance : Plain ePt := ⟨fun a => rfl⟩
@[simp] theorem row_Pt (k f t i p s : Int) (b : ByteArray) : [[AV.int .i64 k, .int .i64 f, .int .i64 t, .int .i64 i, .int .i64 p, .int .i64 s, .str b]] = enc ePt [⟨k, f, t, i, p, s, b⟩] := rfl

/-- May a packet be? -/
def chkT (p : Pt) : Bool := Oct.chkP ⟨p.kd, p.fr, p.to, p.inc, p.pe, p.sq, sb p.bd⟩

theorem V_pchk (p : Pt) : FV (F T) 54 [.agg (ePt p)] = some (.bool (chkT p)) := by
  have h := Oct.V_PCheck ⟨p.kd, p.fr, p.to, p.inc, p.pe, p.sq, sb p.bd⟩
  simp only [Oct.pk, bs_sb] at h
  exact h

/-! #### the outbox -/

def putO (o : Ou) (b : Int) (t : ByteArray) : Ou × Bool × Int :=
  if t.size = 0 then (o, false, 1) else if hasT o.tx t = true then (o, false, 0) else if b ≤ o.tx.length then (o, false, 7)
  else if o.tx = [] then ({ o with tx := [t], wt := 1, lf := 1 }, true, 0) else ({ o with tx := o.tx ++ [t] }, false, 0)

theorem V_putO (o : Ou) (b : Int) (t : ByteArray) (hS : o.tx.length ≤ 100000) :
    FV (F T) 52 [.agg (eOu o), .int .i64 b, .str t] = some (.tup [.agg (eOu (putO o b t).1), .bool (putO o b t).2.1, .int .i64 (putO o b t).2.2]) := by
  have h := V_Put o.pe o.sq o.wt o.lf b o.tx false t hS
  simp only [eOu]
  rw [h]
  unfold putO
  by_cases h1 : t.size = 0
  · rw [if_pos h1, if_pos h1]
  rw [if_neg h1, if_neg h1]
  by_cases h2 : hasT o.tx t = true
  · rw [if_pos h2, if_pos h2]
  rw [if_neg h2, if_neg h2]
  by_cases h3 : b ≤ o.tx.length
  · rw [if_pos h3, if_pos h3]
  rw [if_neg h3, if_neg h3]
  by_cases h4 : o.tx = []
  · rw [if_pos h4, if_pos h4]
  · rw [if_neg h4, if_neg h4]

def ackO (o : Ou) (a b : Int) : Ou × Bool :=
  if o.tx = [] ∨ a ≠ o.pe ∨ b ≠ o.sq then (o, false)
  else if o.tx.tail = [] then ({ o with sq := IntKind.i64.wrap (o.sq + 1), tx := [], wt := 1, lf := 0 }, false)
  else ({ o with sq := IntKind.i64.wrap (o.sq + 1), tx := o.tx.tail, wt := 1, lf := 1 }, true)

theorem V_ackO (o : Ou) (a b : Int) (hS : o.tx.length ≤ 100000) :
    FV (F T) 58 [.agg (eOu o), .int .i64 a, .int .i64 b] = some (.tup [.agg (eOu (ackO o a b).1), .bool (ackO o a b).2]) := by
  have h := V_Acked o.pe o.sq o.wt o.lf a b o.tx false hS
  simp only [eOu]
  rw [h]
  unfold ackO
  by_cases h1 : o.tx = [] ∨ a ≠ o.pe ∨ b ≠ o.sq
  · rw [if_pos h1, if_pos h1]
  rw [if_neg h1, if_neg h1]
  by_cases h2 : o.tx.tail = []
  · rw [if_pos h2, if_pos h2]; rfl
  · rw [if_neg h2, if_neg h2]

def lrnO (o : Ou) (a : Int) : Ou × Bool :=
  if a ≤ o.pe then (o, false) else if o.tx = [] then ({ o with pe := a, sq := 1 }, false) else ({ o with pe := a, sq := 1, wt := 1, lf := 1 }, true)

theorem V_lrnO (o : Ou) (a : Int) (hS : o.tx.length ≤ 100000) :
    FV (F T) 108 [.agg (eOu o), .int .i64 a] = some (.tup [.agg (eOu (lrnO o a).1), .bool (lrnO o a).2]) := by
  have h := V_Learn o.pe o.sq o.wt o.lf a o.tx hS
  simp only [eOu]
  rw [h]
  unfold lrnO
  by_cases h1 : a ≤ o.pe
  · rw [if_pos h1, if_pos h1]
  rw [if_neg h1, if_neg h1]
  by_cases h2 : o.tx = []
  · rw [if_pos h2, if_pos h2]
  · rw [if_neg h2, if_neg h2]

theorem an3 : IntKind.i64.wrap ((3 % 2 ^ IntKind.i64.bits &&& (IntKind.i64.wrap 2 % 2 ^ IntKind.i64.bits).toNat : Nat) : Int) = 2 := by decide
theorem an5 : IntKind.i64.wrap ((5 % 2 ^ IntKind.i64.bits &&& (IntKind.i64.wrap 4 % 2 ^ IntKind.i64.bits).toNat : Nat) : Int) = 4 := by decide
theorem an6 : IntKind.i64.wrap ((6 % 2 ^ IntKind.i64.bits &&& (IntKind.i64.wrap 5 % 2 ^ IntKind.i64.bits).toNat : Nat) : Int) = 4 := by decide
theorem an7 : IntKind.i64.wrap ((7 % 2 ^ IntKind.i64.bits &&& (IntKind.i64.wrap 6 % 2 ^ IntKind.i64.bits).toNat : Nat) : Int) = 6 := by decide


instance (w : Int) : Decidable (wok w) := inferInstanceAs (Decidable (_ ∨ _))

def chkW (w l : Int) : Bool := decide (wok w ∧ 0 ≤ l ∧ l ≤ w)

theorem V_chkW (w l : Int) : FV (F T) 190 [.agg [.int .i64 w, .int .i64 l]] = some (.bool (chkW w l)) := by
  unfold chkW
  by_cases h0 : w < 1
  · rw [decide_eq_false (by rintro ⟨h, _, _⟩; rcases h with h | h | h | h <;> omega)]
    refine FV_W T190 (r := ?r1) (W_fin (ex := .ret) (by simp [c190, c190_b, h0]; with_reducible rfl) (by simp) (by first | (simp [c190]; done) | (simp [c190]; with_reducible rfl))) (by simp)
  by_cases h1 : 8 < w
  · rw [decide_eq_false (by rintro ⟨h, _, _⟩; rcases h with h | h | h | h <;> omega)]
    refine FV_W T190 (r := ?r2) (W_fin (ex := .ret) (by simp [c190, c190_b, h0, h1]; with_reducible rfl) (by simp) (by first | (simp [c190]; done) | (simp [c190]; with_reducible rfl))) (by simp)
  by_cases h2 : l < 0
  · rw [decide_eq_false (by rintro ⟨_, h, _⟩; omega)]
    refine FV_W T190 (r := ?r3) (W_fin (ex := .ret) (by simp [c190, c190_b, h0, h1, h2]; with_reducible rfl) (by simp) (by first | (simp [c190]; done) | (simp [c190]; with_reducible rfl))) (by simp)
  by_cases h3 : w < l
  · rw [decide_eq_false (by rintro ⟨_, _, h⟩; omega)]
    refine FV_W T190 (r := ?r4) (W_fin (ex := .ret) (by simp [c190, c190_b, h0, h1, h2, h3]; with_reducible rfl) (by simp) (by first | (simp [c190]; done) | (simp [c190]; with_reducible rfl))) (by simp)
  by_cases hw : wok w
  · rw [decide_eq_true ⟨hw, by omega, by omega⟩]
    exact V_check w l hw (by omega) (by omega)
  rw [decide_eq_false (fun h => hw h.1)]
  have : w = 3 ∨ w = 5 ∨ w = 6 ∨ w = 7 := by
    unfold wok at hw
    omega
  rcases this with rfl | rfl | rfl | rfl
  · refine FV_W T190 (r := ?r5) (W_fin (ex := .ret) (by simp [c190, c190_b, h2, h3, an3]; with_reducible rfl) (by simp) (by first | (simp [c190]; done) | (simp [c190]; with_reducible rfl))) (by simp)
  · refine FV_W T190 (r := ?r6) (W_fin (ex := .ret) (by simp [c190, c190_b, h2, h3, an5]; with_reducible rfl) (by simp) (by first | (simp [c190]; done) | (simp [c190]; with_reducible rfl))) (by simp)
  · refine FV_W T190 (r := ?r7) (W_fin (ex := .ret) (by simp [c190, c190_b, h2, h3, an6]; with_reducible rfl) (by simp) (by first | (simp [c190]; done) | (simp [c190]; with_reducible rfl))) (by simp)
  · refine FV_W T190 (r := ?r8) (W_fin (ex := .ret) (by simp [c190, c190_b, h2, h3, an7]; with_reducible rfl) (by simp) (by first | (simp [c190]; done) | (simp [c190]; with_reducible rfl))) (by simp)

/-- A tick of any pace. -/
def tickW (w l : Int) : (Int × Int) × Bool := if chkW w l = false then ((1, 0), false) else if l = 0 then ((w, l), false) else if l = 1 then ((nxt w, nxt w), true) else ((w, l - 1), false)

theorem V_tickW (w l : Int) : FV (F T) 112 [.agg [.int .i64 w, .int .i64 l]] = some (.tup [.agg [.int .i64 (tickW w l).1.1, .int .i64 (tickW w l).1.2], .bool (tickW w l).2]) := by
  unfold tickW
  have f1 := V_chkW w l
  cases hc : chkW w l
  · rw [if_pos rfl]
    rw [hc] at f1
    have f2 : FV (F T) 156 [.agg [.int .i64 w, .int .i64 l]] = some (.agg [.int .i64 1, .int .i64 0]) := by
      refine FV_W T156 (r := ?r9) (W_fin (ex := .ret) (by simp [c156, c156_b, f1, V_pnew]; with_reducible rfl) (by simp) (by first | (simp [c156]; done) | (simp [c156]; with_reducible rfl))) (by simp)
    refine FV_W T112 (r := ?r10) (W_fin (ex := .ret) (by simp [c112, c112_b, f2]; with_reducible rfl) (by simp) (by first | (simp [c112]; done) | (simp [c112]; with_reducible rfl))) (by simp)
  rw [if_neg (by simp)]
  unfold chkW at hc
  obtain ⟨h1, h2, h3⟩ := of_decide_eq_true hc
  by_cases h4 : l = 0
  · rw [if_pos h4]
    subst h4
    have f2 := V_fine w 0 h1 (by omega) h3
    refine FV_W T112 (r := ?r11) (W_fin (ex := .ret) (by simp [c112, c112_b, f2]; with_reducible rfl) (by simp) (by first | (simp [c112]; done) | (simp [c112]; with_reducible rfl))) (by simp)
  · rw [if_neg h4]
    rw [V_tick w l h1 (by omega) h3]
    by_cases h5 : l = 1
    · rw [if_pos h5, if_pos h5]
    · rw [if_neg h5, if_neg h5]

def tikO (o : Ou) : Ou × Bool := if o.tx = [] then (o, false) else ({ o with wt := (tickW o.wt o.lf).1.1, lf := (tickW o.wt o.lf).1.2 }, (tickW o.wt o.lf).2)

theorem V_tikO (o : Ou) : FV (F T) 59 [.agg (eOu o)] = some (.tup [.agg (eOu (tikO o).1), .bool (tikO o).2]) := by
  unfold tikO
  obtain ⟨p, q, S, w, l⟩ := o
  simp only [eOu]
  by_cases h4 : S = []
  · rw [if_pos h4]
    subst h4
    have h : F T 59 [.agg [.int .i64 p, .int .i64 q, .ro 1 (enc eStr []) false, .int .i64 w, .int .i64 l]] [] = some (.tup [.agg [.int .i64 p, .int .i64 q, .ro 1 (enc eStr []) false, .int .i64 w, .int .i64 l], .bool false], []) := by
      refine F_W T59 ?_
      simp only [c59, c59_b, Lift.start]
      repeat (first | refine W_assoc ?_ | (show W _ (.seq (.region _ _) _) _ _; refine W_reg (by simp; with_reducible rfl) ?_) | (show R _ _ _ (_ :: _) _ _ _ _; refine R_op (by simp (maxSteps := 2000000); with_reducible rfl) ?_) | (show R _ _ _ [] _ _ _ _; refine R_nil (by simp; with_reducible rfl) ?_) | (show W _ (.seq (.cond _ _ _) _) _ _; first | refine W_ct (by first | (simp; done) | fail) ?_ | refine W_cf (by first | (simp; done) | fail) ?_) | refine W_skip ?_ | refine W_bl (c := .seq _ _) ?_ | refine W_bl (c := .region _ _) ?_ | refine W_bl (c := .cond _ _ _) ?_ | refine W_bl (c := .block _ _) ?_ | refine W_rt ?_ | refine W_ex ?_ | refine W_end ?_ | refine W_tail (a := .region _ _) ?_ | refine W_tail (a := .cond _ _ _) ?_ | refine W_tail (a := .ret) ?_ | refine W_tail (a := .exit _) ?_ | refine W_tail (a := .block _ _) ?_ | refine QB_normal ?_ | refine QB_exit ?_ | refine QB_ret ?_ | refine QB_out (by decide) ?_ | refine QL_next ?_ | refine QL_exit ?_ | refine QL_ret ?_ | refine QL_out (by decide) ?_ | (show Fin _ _ .ret _; exact Fin_ret (by first | (simp [c59]; done) | (simp [c59]; with_reducible rfl))) | (show Fin _ _ .normal _; exact Fin_end (by first | (simp [c59]; done) | (simp [c59]; with_reducible rfl))))
    simpa using FV_of h
  · rw [if_neg h4]
    have f1 := V_tickW w l
    generalize tickW w l = r at *
    obtain ⟨⟨w', l'⟩, b⟩ := r
    simp only [] at f1 ⊢
    have h : F T 59 [.agg [.int .i64 p, .int .i64 q, .ro 1 (enc eStr S) false, .int .i64 w, .int .i64 l]] [] = some (.tup [.agg [.int .i64 p, .int .i64 q, .ro 1 (enc eStr S) false, .int .i64 w', .int .i64 l'], .bool b], []) := by
      refine F_W T59 ?_
      simp only [c59, c59_b, Lift.start]
      repeat (first | refine W_assoc ?_ | (show W _ (.seq (.region _ _) _) _ _; refine W_reg (by simp; with_reducible rfl) ?_) | (show R _ _ _ (_ :: _) _ _ _ _; refine R_op (by simp (maxSteps := 2000000) [h4, f1]; with_reducible rfl) ?_) | (show R _ _ _ [] _ _ _ _; refine R_nil (by simp; with_reducible rfl) ?_) | (show W _ (.seq (.cond _ _ _) _) _ _; first | refine W_ct (by first | (simp [h4, f1]; done) | fail) ?_ | refine W_cf (by first | (simp [h4, f1]; done) | fail) ?_) | refine W_skip ?_ | refine W_bl (c := .seq _ _) ?_ | refine W_bl (c := .region _ _) ?_ | refine W_bl (c := .cond _ _ _) ?_ | refine W_bl (c := .block _ _) ?_ | refine W_rt ?_ | refine W_ex ?_ | refine W_end ?_ | refine W_tail (a := .region _ _) ?_ | refine W_tail (a := .cond _ _ _) ?_ | refine W_tail (a := .ret) ?_ | refine W_tail (a := .exit _) ?_ | refine W_tail (a := .block _ _) ?_ | refine QB_normal ?_ | refine QB_exit ?_ | refine QB_ret ?_ | refine QB_out (by decide) ?_ | refine QL_next ?_ | refine QL_exit ?_ | refine QL_ret ?_ | refine QL_out (by decide) ?_ | (show Fin _ _ .ret _; exact Fin_ret (by first | (simp [c59]; done) | (simp [c59]; with_reducible rfl))) | (show Fin _ _ .normal _; exact Fin_end (by first | (simp [c59]; done) | (simp [c59]; with_reducible rfl))))
    simpa using FV_of h

/-- The first text. -/
def fst (l : List ByteArray) : ByteArray := match l with | [] => ⟨⟨[]⟩⟩ | t :: _ => t

theorem V_first (o : Ou) (hS : o.tx.length ≤ 100000) : FV (F T) 101 [.agg (eOu o)] = some (.str (fst o.tx)) := by
  obtain ⟨p, q, S, w, l⟩ := o
  simp only [eOu] at hS ⊢
  cases S with
  | nil =>
    rw [show fst [] = ⟨⟨[]⟩⟩ from rfl]
    refine FV_W T101 (r := ?r12) (W_fin (ex := .ret) (by simp [c101, c101_b]; with_reducible rfl) (by simp) (by first | (simp [c101]; done) | (simp [c101]; with_reducible rfl))) (by simp)
  | cons t S =>
    have h5 : (0 : Int) < S.length + 1 := by omega
    have h6 : ¬ ((S.length : Int) + 1 = 0) := by omega
    rw [show fst (t :: S) = t from rfl]
    refine FV_W T101 (r := ?r13) (W_fin (ex := .ret) (by simp [c101, c101_b, h5, h6]; with_reducible rfl) (by simp) (by first | (simp [c101]; done) | (simp [c101]; with_reducible rfl))) (by simp)

/-- The first text's packet. -/
def dat (e : Ed) : Pt := ⟨1, e.fr, e.to, e.inc, e.o.pe, e.o.sq, fst e.o.tx⟩
def datL (e : Ed) (b : Bool) : List Pt := if b = true then [dat e] else []

theorem F_data (e : Ed) (b : Bool) (hS : e.o.tx.length ≤ 100000) : F T 53 [.agg (eEd e), .bool b] [] = some (.own 0 0 (datL e b).length, [⟨44, 7, false, enc ePt (datL e b), 0⟩]) := by
  have f1 := V_first e.o hS
  simp only [eOu] at f1
  unfold datL dat
  refine F_W T53 ?_
  simp only [c53, c53_b, Lift.start, eEd]
  cases b
  · repeat (first | refine W_assoc ?_ | (show W _ (.seq (.region _ _) _) _ _; refine W_reg (by simp; with_reducible rfl) ?_) | (show R _ _ _ (_ :: _) _ _ _ _; refine R_op (by simp (maxSteps := 2000000); with_reducible rfl) ?_) | (show R _ _ _ [] _ _ _ _; refine R_nil (by simp; with_reducible rfl) ?_) | (show W _ (.seq (.cond _ _ _) _) _ _; first | refine W_ct (by first | (simp; done) | fail) ?_ | refine W_cf (by first | (simp; done) | fail) ?_) | refine W_skip ?_ | refine W_bl (c := .seq _ _) ?_ | refine W_bl (c := .region _ _) ?_ | refine W_bl (c := .cond _ _ _) ?_ | refine W_bl (c := .block _ _) ?_ | refine W_rt ?_ | refine W_ex ?_ | refine W_end ?_ | refine W_tail (a := .region _ _) ?_ | refine W_tail (a := .cond _ _ _) ?_ | refine W_tail (a := .ret) ?_ | refine W_tail (a := .exit _) ?_ | refine W_tail (a := .block _ _) ?_ | refine QB_normal ?_ | refine QB_exit ?_ | refine QB_ret ?_ | refine QB_out (by decide) ?_ | refine QL_next ?_ | refine QL_exit ?_ | refine QL_ret ?_ | refine QL_out (by decide) ?_ | (show Fin _ _ .ret _; exact Fin_ret (by first | (simp [c53]; done) | (simp [c53]; with_reducible rfl))) | (show Fin _ _ .normal _; exact Fin_end (by first | (simp [c53]; done) | (simp [c53]; with_reducible rfl))))
  · repeat (first | refine W_assoc ?_ | (show W _ (.seq (.region _ _) _) _ _; refine W_reg (by simp; with_reducible rfl) ?_) | (show R _ _ _ (_ :: _) _ _ _ _; refine R_op (by simp (maxSteps := 2000000) [f1]; with_reducible rfl) ?_) | (show R _ _ _ [] _ _ _ _; refine R_nil (by simp; with_reducible rfl) ?_) | (show W _ (.seq (.cond _ _ _) _) _ _; first | refine W_ct (by first | (simp [f1]; done) | fail) ?_ | refine W_cf (by first | (simp [f1]; done) | fail) ?_) | refine W_skip ?_ | refine W_bl (c := .seq _ _) ?_ | refine W_bl (c := .region _ _) ?_ | refine W_bl (c := .cond _ _ _) ?_ | refine W_bl (c := .block _ _) ?_ | refine W_rt ?_ | refine W_ex ?_ | refine W_end ?_ | refine W_tail (a := .region _ _) ?_ | refine W_tail (a := .cond _ _ _) ?_ | refine W_tail (a := .ret) ?_ | refine W_tail (a := .exit _) ?_ | refine W_tail (a := .block _ _) ?_ | refine QB_normal ?_ | refine QB_exit ?_ | refine QB_ret ?_ | refine QB_out (by decide) ?_ | refine QL_next ?_ | refine QL_exit ?_ | refine QL_ret ?_ | refine QL_out (by decide) ?_ | (show Fin _ _ .ret _; exact Fin_ret (by first | (simp [c53]; done) | (simp [c53]; with_reducible rfl))) | (show Fin _ _ .normal _; exact Fin_end (by first | (simp [c53]; done) | (simp [c53]; with_reducible rfl))))

theorem V_data (e : Ed) (b : Bool) (hS : e.o.tx.length ≤ 100000) : FV (F T) 53 [.agg (eEd e), .bool b] = some (.ro 7 (enc ePt (datL e b)) false) := by
  simpa using FV_of (F_data e b hS)

end Go.Proofs.Ytjpccbjgmogclaa.Link
