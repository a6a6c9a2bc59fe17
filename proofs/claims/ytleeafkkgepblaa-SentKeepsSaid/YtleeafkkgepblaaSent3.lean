/- An outbox, step by step. -/
import Derived.Test.YtleeafkkgepblaaSent2
set_option linter.all false
set_option linter.unusedSimpArgs false
set_option maxRecDepth 100000
set_option maxHeartbeats 8000000
namespace Go.Proofs.Ytleeafkkgepblaa.Sent
open Go Go.RowKit Go.Proofs.Ytleeafkkgepblaa.Lift Go.Proofs.Ytleeafkkgepblaa.TSK Go.Proofs.Ytleeafkkgepblaa.Base

/-- A step: what is done, peer, seq, text. -/
abbrev St := Int × Int × Int × ByteArray
@[simp] def eSt (s : St) : List AV := [.int .i64 s.1, .int .i64 s.2.1, .int .i64 s.2.2.1, .str s.2.2.2]
instance : Plain eSt := ⟨fun a => rfl⟩

structure Inv (b quiet : Int) (S : List ByteArray) (w x : Int) : Prop where
  nd : S.Nodup
  le : (S.length : Int) ≤ b
  ne : S ≠ [] → wok w ∧ 1 ≤ x ∧ x ≤ w ∧ quiet = w - x
  em : S = [] → quiet = 0

theorem inner (b : Int) (l : List St) (fl : Bool) (S : List ByteArray) (hn : S.Nodup) (hS : S.length ≤ 255) (p q w x quiet : Int) (f : Bool) (i : Nat) (Q : AEx → ASt → Prop)
    (hQ : Q .normal ⟨[.int .u8 b, .ro 4 (enc eSt l) fl, .top, .top, .top, .ref 0 0 0, .int .i64 quiet, .int .i64 i, .top, .top, .top, .top, .int .i64 S.length, .top, .top, .top, .top, .top, .top, .top, .top, .top, .top, .top, .top, .top, .top, .top, .top, .top, .top, .top, .top, .top, .top, .top, .top, .top, .top, .top, .top, .top, .top, .top, .top, .top, .top, .top, .top, .top, .top, .top, .top, .top, .top, .top, .top, .top, .top, .top, .top, .top, .top, .top, .top, .top, .top, .top, .top, .top, .top, .top, .top, .top, .top, .top, .top, .top, .top, .top, .top, .top, .top, .top, .top, .top, .top, .top, .top, .top, .top, .top, .top, .top, .top, .top, .top, .top, .top, .top, .top, .top, .top, .top, .top, .top, .top, .top, .top, .top, .top, .top, .top, .top, .top, .top, .top, .top, .top, .top, .top, .top, .top, .top, .top, .top, .top, .top, .top, .top, .top, .top, .int .i64 S.length, .ref 0 0 2, .ro 1 (enc eStr S) f, .int .i64 S.length, .bool false, .top, .top, .top, .top, .top, .top, .top, .top, .top, .top, .top, .top, .top], [(0, ⟨42, 5, true, [[.int .i64 p, .int .i64 q, .ro 1 (enc eStr S) f, .int .i64 w, .int .i64 x]], 0⟩)], 321, 0⟩) :
    ∀ (k j : Nat) (st : ASt), j + k = S.length → canon [0, 1, 5, 6, 7, 12] st = ⟨[.int .u8 b, .ro 4 (enc eSt l) fl, .top, .top, .top, .ref 0 0 0, .int .i64 quiet, .int .i64 i, .top, .top, .top, .top, .int .i64 j, .top, .top, .top, .top, .top, .top, .top, .top, .top, .top, .top, .top, .top, .top, .top, .top, .top, .top, .top, .top, .top, .top, .top, .top, .top, .top, .top, .top, .top, .top, .top, .top, .top, .top, .top, .top, .top, .top, .top, .top, .top, .top, .top, .top, .top, .top, .top, .top, .top, .top, .top, .top, .top, .top, .top, .top, .top, .top, .top, .top, .top, .top, .top, .top, .top, .top, .top, .top, .top, .top, .top, .top, .top, .top, .top, .top, .top, .top, .top, .top, .top, .top, .top, .top, .top, .top, .top, .top, .top, .top, .top, .top, .top, .top, .top, .top, .top, .top, .top, .top, .top, .top, .top, .top, .top, .top, .top, .top, .top, .top, .top, .top, .top, .top, .top, .top, .top, .top, .top, .top, .top, .top, .top, .top, .top, .top, .top, .top, .top, .top, .top, .top, .top, .top, .top, .top, .top], [(0, ⟨42, 5, true, [[.int .i64 p, .int .i64 q, .ro 1 (enc eStr S) f, .int .i64 w, .int .i64 x]], 0⟩)], 1, 0⟩ →
      W T (.seq (.block 2 (.loop [0, 1, 5, 6, 7, 12] c4_l1)) .skip) st Q := by
  intro k
  induction k with
  | zero =>
    intro j st hj hc
    obtain rfl : j = S.length := by omega
    refine W_round hc ?_
    unfold c4_l1
    repeat (first | refine W_assoc ?_ | (show W _ (.seq (.region _ _) _) _ _; refine W_reg (by simp; with_reducible rfl) ?_) | (show R _ _ _ (_ :: _) _ _ _ _; refine R_op (by simp (maxSteps := 2000000); with_reducible rfl) ?_) | (show R _ _ _ [] _ _ _ _; refine R_nil (by simp; with_reducible rfl) ?_) | (show W _ (.seq (.cond _ _ _) _) _ _; first | refine W_ct (by first | (simp; done) | fail) ?_ | refine W_cf (by first | (simp; done) | fail) ?_) | refine W_skip ?_ | refine W_bl (c := .seq _ _) ?_ | refine W_bl (c := .region _ _) ?_ | refine W_bl (c := .cond _ _ _) ?_ | refine W_bl (c := .block _ _) ?_ | refine W_rt ?_ | refine W_ex ?_ | refine W_end ?_ | refine W_tail (a := .region _ _) ?_ | refine W_tail (a := .cond _ _ _) ?_ | refine W_tail (a := .ret) ?_ | refine W_tail (a := .exit _) ?_ | refine W_tail (a := .block _ _) ?_ | refine QB_normal ?_ | refine QB_exit ?_ | refine QB_ret ?_ | refine QB_out (by decide) ?_ | refine QL_next ?_ | refine QL_exit ?_ | refine QL_ret ?_ | refine QL_out (by decide) ?_ | (show Fin _ _ .ret _; exact Fin_ret (by first | (simp; done) | (simp; with_reducible rfl))) | (show Fin _ _ .normal _; exact Fin_end (by first | (simp; done) | (simp; with_reducible rfl))))
    exact hQ
  | succ k ih =>
    intro j st hj hc
    have hlt : j < S.length := by omega
    have hw := wrapS j _ hlt (by omega)
    have f1 := V_Place S[j] S false (by omega)
    rw [fidxF_nodup S hn j hlt] at f1
    refine W_round hc ?_
    unfold c4_l1
    cases f
    · repeat (first | refine W_assoc ?_ | (show W _ (.seq (.region _ _) _) _ _; refine W_reg (by simp; with_reducible rfl) ?_) | (show R _ _ _ (_ :: _) _ _ _ _; refine R_op (by simp (maxSteps := 2000000) [hlt, hw, f1]; with_reducible rfl) ?_) | (show R _ _ _ [] _ _ _ _; refine R_nil (by simp; with_reducible rfl) ?_) | (show W _ (.seq (.cond _ _ _) _) _ _; first | refine W_ct (by first | (simp [hlt, hw, f1]; done) | fail) ?_ | refine W_cf (by first | (simp [hlt, hw, f1]; done) | fail) ?_) | refine W_skip ?_ | refine W_bl (c := .seq _ _) ?_ | refine W_bl (c := .region _ _) ?_ | refine W_bl (c := .cond _ _ _) ?_ | refine W_bl (c := .block _ _) ?_ | refine W_rt ?_ | refine W_ex ?_ | refine W_end ?_ | refine W_tail (a := .region _ _) ?_ | refine W_tail (a := .cond _ _ _) ?_ | refine W_tail (a := .ret) ?_ | refine W_tail (a := .exit _) ?_ | refine W_tail (a := .block _ _) ?_ | refine QB_normal ?_ | refine QB_exit ?_ | refine QB_ret ?_ | refine QB_out (by decide) ?_ | refine QL_next ?_ | refine QL_exit ?_ | refine QL_ret ?_ | refine QL_out (by decide) ?_ | (show Fin _ _ .ret _; exact Fin_ret (by first | (simp; done) | (simp; with_reducible rfl))) | (show Fin _ _ .normal _; exact Fin_end (by first | (simp; done) | (simp; with_reducible rfl))))
      exact ih (j + 1) _ (by omega) (by simp; try rfl)
    · repeat (first | refine W_assoc ?_ | (show W _ (.seq (.region _ _) _) _ _; refine W_reg (by simp; with_reducible rfl) ?_) | (show R _ _ _ (_ :: _) _ _ _ _; refine R_op (by simp (maxSteps := 2000000) [hlt, hw, f1]; with_reducible rfl) ?_) | (show R _ _ _ [] _ _ _ _; refine R_nil (by simp; with_reducible rfl) ?_) | (show W _ (.seq (.cond _ _ _) _) _ _; first | refine W_ct (by first | (simp [hlt, hw, f1]; done) | fail) ?_ | refine W_cf (by first | (simp [hlt, hw, f1]; done) | fail) ?_) | refine W_skip ?_ | refine W_bl (c := .seq _ _) ?_ | refine W_bl (c := .region _ _) ?_ | refine W_bl (c := .cond _ _ _) ?_ | refine W_bl (c := .block _ _) ?_ | refine W_rt ?_ | refine W_ex ?_ | refine W_end ?_ | refine W_tail (a := .region _ _) ?_ | refine W_tail (a := .cond _ _ _) ?_ | refine W_tail (a := .ret) ?_ | refine W_tail (a := .exit _) ?_ | refine W_tail (a := .block _ _) ?_ | refine QB_normal ?_ | refine QB_exit ?_ | refine QB_ret ?_ | refine QB_out (by decide) ?_ | refine QL_next ?_ | refine QL_exit ?_ | refine QL_ret ?_ | refine QL_out (by decide) ?_ | (show Fin _ _ .ret _; exact Fin_ret (by first | (simp; done) | (simp; with_reducible rfl))) | (show Fin _ _ .normal _; exact Fin_end (by first | (simp; done) | (simp; with_reducible rfl))))
      exact ih (j + 1) _ (by omega) (by simp; try rfl)

theorem V_Same (l : List ByteArray) (f g : Bool) (h : l.length ≤ 100000) : FV (F T) 16 [.ro 1 (enc eStr l) false, .ro 1 (enc eStr l) false] = some (.bool true) := by
  have := FV_of (F_R03_Same l l (by omega) (by omega))
  simpa using this

end Go.Proofs.Ytleeafkkgepblaa.Sent
