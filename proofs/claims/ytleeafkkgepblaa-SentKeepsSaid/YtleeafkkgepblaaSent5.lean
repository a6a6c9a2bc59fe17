/- An outbox, however it is used: the law. -/
import Derived.Test.YtleeafkkgepblaaSent4a
import Derived.Test.YtleeafkkgepblaaSent4b
import Derived.Test.YtleeafkkgepblaaSent4c
import Derived.Test.YtleeafkkgepblaaSent4d
import Derived.Test.YtleeafkkgepblaaSent4e
import Derived.Test.YtleeafkkgepblaaSent4f
set_option linter.all false
set_option linter.unusedSimpArgs false
set_option maxRecDepth 100000
set_option maxHeartbeats 8000000
namespace Go.Proofs.Ytleeafkkgepblaa.Sent
open Go Go.RowKit Go.Proofs.Ytleeafkkgepblaa.Lift Go.Proofs.Ytleeafkkgepblaa.TSK Go.Proofs.Ytleeafkkgepblaa.Base

theorem nxt_ok {w : Int} (h : wok w) : wok (nxt w) ∧ 1 ≤ nxt w := by
  unfold nxt wok
  rcases h with rfl | rfl | rfl | rfl <;> simp

theorem skip_leaf (b : Int) (l : List St) (fl : Bool) (quiet p q w x : Int) (S : List ByteArray) (f : Bool) (i : Nat) (hi : i < l.length) (hl : l.length ≤ 60) (d pe se : Int) (t : ByteArray) (hs : l[i] = (d, pe, se, t)) (hlg : 20 < t.size) (st : ASt) (hc : canon [0, 1, 5, 6, 7] st = ⟨[.int .u8 b, .ro 4 (enc eSt l) fl, .top, .top, .top, .ref 0 0 0, .int .i64 quiet, .int .i64 i, .top, .top, .top, .top, .top, .top, .top, .top, .top, .top, .top, .top, .top, .top, .top, .top, .top, .top, .top, .top, .top, .top, .top, .top, .top, .top, .top, .top, .top, .top, .top, .top, .top, .top, .top, .top, .top, .top, .top, .top, .top, .top, .top, .top, .top, .top, .top, .top, .top, .top, .top, .top, .top, .top, .top, .top, .top, .top, .top, .top, .top, .top, .top, .top, .top, .top, .top, .top, .top, .top, .top, .top, .top, .top, .top, .top, .top, .top, .top, .top, .top, .top, .top, .top, .top, .top, .top, .top, .top, .top, .top, .top, .top, .top, .top, .top, .top, .top, .top, .top, .top, .top, .top, .top, .top, .top, .top, .top, .top, .top, .top, .top, .top, .top, .top, .top, .top, .top, .top, .top, .top, .top, .top, .top, .top, .top, .top, .top, .top, .top, .top, .top, .top, .top, .top, .top, .top, .top, .top, .top, .top, .top], [(0, ⟨42, 5, true, [[.int .i64 p, .int .i64 q, .ro 1 (enc eStr S) f, .int .i64 w, .int .i64 x]], 0⟩)], 1, 0⟩)
    (hk : ∀ st', canon [0, 1, 5, 6, 7] st' = ⟨[.int .u8 b, .ro 4 (enc eSt l) fl, .top, .top, .top, .ref 0 0 0, .int .i64 quiet, .int .i64 ((i + 1 : Nat) : Int), .top, .top, .top, .top, .top, .top, .top, .top, .top, .top, .top, .top, .top, .top, .top, .top, .top, .top, .top, .top, .top, .top, .top, .top, .top, .top, .top, .top, .top, .top, .top, .top, .top, .top, .top, .top, .top, .top, .top, .top, .top, .top, .top, .top, .top, .top, .top, .top, .top, .top, .top, .top, .top, .top, .top, .top, .top, .top, .top, .top, .top, .top, .top, .top, .top, .top, .top, .top, .top, .top, .top, .top, .top, .top, .top, .top, .top, .top, .top, .top, .top, .top, .top, .top, .top, .top, .top, .top, .top, .top, .top, .top, .top, .top, .top, .top, .top, .top, .top, .top, .top, .top, .top, .top, .top, .top, .top, .top, .top, .top, .top, .top, .top, .top, .top, .top, .top, .top, .top, .top, .top, .top, .top, .top, .top, .top, .top, .top, .top, .top, .top, .top, .top, .top, .top, .top, .top, .top, .top, .top, .top, .top], [(0, ⟨42, 5, true, [[.int .i64 p, .int .i64 q, .ro 1 (enc eStr S) f, .int .i64 w, .int .i64 x]], 0⟩)], 1, 0⟩ → W T c4_k0 st' (Lift.Fin c4 (.bool true, []))) : W T c4_k0 st (Lift.Fin c4 (.bool true, [])) := by
  have hlt : (i : Int) < l.length := by omega
  have hw := wrapS i _ hi (by omega)
  have hlg' : (20 : Int) < t.size := by omega
  unfold c4_k0
  refine W_round hc ?_
  unfold c4_l0
  repeat (first | refine W_assoc ?_ | (show W _ (.seq (.region _ _) _) _ _; refine W_reg (by simp; with_reducible rfl) ?_) | (show R _ _ _ (_ :: _) _ _ _ _; refine R_op (by simp (maxSteps := 2000000) [hs, hi, hlt, hw, hlg, hlg']; with_reducible rfl) ?_) | (show R _ _ _ [] _ _ _ _; refine R_nil (by simp; with_reducible rfl) ?_) | (show W _ (.seq (.cond _ _ _) _) _ _; first | refine W_ct (by first | (simp [hs, hi, hlt, hw, hlg, hlg']; done) | fail) ?_ | refine W_cf (by first | (simp [hs, hi, hlt, hw, hlg, hlg']; done) | fail) ?_) | refine W_skip ?_ | refine W_bl (c := .seq _ _) ?_ | refine W_bl (c := .region _ _) ?_ | refine W_bl (c := .cond _ _ _) ?_ | refine W_bl (c := .block _ _) ?_ | refine W_rt ?_ | refine W_ex ?_ | refine W_end ?_ | refine W_tail (a := .region _ _) ?_ | refine W_tail (a := .cond _ _ _) ?_ | refine W_tail (a := .ret) ?_ | refine W_tail (a := .exit _) ?_ | refine W_tail (a := .block _ _) ?_ | refine QB_normal ?_ | refine QB_exit ?_ | refine QB_ret ?_ | refine QB_out (by decide) ?_ | refine QL_next ?_ | refine QL_exit ?_ | refine QL_ret ?_ | refine QL_out (by decide) ?_ | (show Fin _ _ .ret _; exact Fin_ret (by first | (simp; done) | (simp; with_reducible rfl))) | (show Fin _ _ .normal _; exact Fin_end (by first | (simp; done) | (simp; with_reducible rfl))))
  exact hk _ (by simp; try rfl)

theorem steps (b : Int) (l : List St) (fl : Bool) (hb0 : 0 ≤ b) (hb1 : b ≤ 255) (hl : l.length ≤ 60) :
    ∀ (k i : Nat) (quiet p q w x : Int) (S : List ByteArray) (f : Bool) (st : ASt), i + k = l.length → Inv b quiet S w x → (f = false ∨ S = []) →
      canon [0, 1, 5, 6, 7] st = ⟨[.int .u8 b, .ro 4 (enc eSt l) fl, .top, .top, .top, .ref 0 0 0, .int .i64 quiet, .int .i64 i, .top, .top, .top, .top, .top, .top, .top, .top, .top, .top, .top, .top, .top, .top, .top, .top, .top, .top, .top, .top, .top, .top, .top, .top, .top, .top, .top, .top, .top, .top, .top, .top, .top, .top, .top, .top, .top, .top, .top, .top, .top, .top, .top, .top, .top, .top, .top, .top, .top, .top, .top, .top, .top, .top, .top, .top, .top, .top, .top, .top, .top, .top, .top, .top, .top, .top, .top, .top, .top, .top, .top, .top, .top, .top, .top, .top, .top, .top, .top, .top, .top, .top, .top, .top, .top, .top, .top, .top, .top, .top, .top, .top, .top, .top, .top, .top, .top, .top, .top, .top, .top, .top, .top, .top, .top, .top, .top, .top, .top, .top, .top, .top, .top, .top, .top, .top, .top, .top, .top, .top, .top, .top, .top, .top, .top, .top, .top, .top, .top, .top, .top, .top, .top, .top, .top, .top, .top, .top, .top, .top, .top, .top], [(0, ⟨42, 5, true, [[.int .i64 p, .int .i64 q, .ro 1 (enc eStr S) f, .int .i64 w, .int .i64 x]], 0⟩)], 1, 0⟩ → W T c4_k0 st (Lift.Fin c4 (.bool true, [])) := by
  intro k
  induction k with
  | zero =>
    intro i quiet p q w x S f st hi hI hf hc
    have h1 : ¬ i < l.length := by omega
    unfold c4_k0
    refine W_round hc ?_
    unfold c4_l0
    repeat (first | refine W_assoc ?_ | (show W _ (.seq (.region _ _) _) _ _; refine W_reg (by simp; with_reducible rfl) ?_) | (show R _ _ _ (_ :: _) _ _ _ _; refine R_op (by simp (maxSteps := 2000000) [h1, V_works24]; with_reducible rfl) ?_) | (show R _ _ _ [] _ _ _ _; refine R_nil (by simp; with_reducible rfl) ?_) | (show W _ (.seq (.cond _ _ _) _) _ _; first | refine W_ct (by first | (simp [h1, V_works24]; done) | fail) ?_ | refine W_cf (by first | (simp [h1, V_works24]; done) | fail) ?_) | refine W_skip ?_ | refine W_bl (c := .seq _ _) ?_ | refine W_bl (c := .region _ _) ?_ | refine W_bl (c := .cond _ _ _) ?_ | refine W_bl (c := .block _ _) ?_ | refine W_rt ?_ | refine W_ex ?_ | refine W_end ?_ | refine W_tail (a := .region _ _) ?_ | refine W_tail (a := .cond _ _ _) ?_ | refine W_tail (a := .ret) ?_ | refine W_tail (a := .exit _) ?_ | refine W_tail (a := .block _ _) ?_ | refine QB_normal ?_ | refine QB_exit ?_ | refine QB_ret ?_ | refine QB_out (by decide) ?_ | refine QL_next ?_ | refine QL_exit ?_ | refine QL_ret ?_ | refine QL_out (by decide) ?_ | (show Fin _ _ .ret _; exact Fin_ret (by first | (simp [c4]; done) | (simp [c4]; with_reducible rfl))) | (show Fin _ _ .normal _; exact Fin_end (by first | (simp [c4]; done) | (simp [c4]; with_reducible rfl))))
  | succ k ih =>
    intro i quiet p q w x S f st hi hI hf hc
    have hlt : i < l.length := by omega
    obtain ⟨⟨d, pe, se, t⟩, hs⟩ : ∃ s, l[i] = s := ⟨_, rfl⟩
    have same : ∀ (p q : Int) (st' : ASt), canon [0, 1, 5, 6, 7] st' = ⟨[.int .u8 b, .ro 4 (enc eSt l) fl, .top, .top, .top, .ref 0 0 0, .int .i64 quiet, .int .i64 ((i + 1 : Nat) : Int), .top, .top, .top, .top, .top, .top, .top, .top, .top, .top, .top, .top, .top, .top, .top, .top, .top, .top, .top, .top, .top, .top, .top, .top, .top, .top, .top, .top, .top, .top, .top, .top, .top, .top, .top, .top, .top, .top, .top, .top, .top, .top, .top, .top, .top, .top, .top, .top, .top, .top, .top, .top, .top, .top, .top, .top, .top, .top, .top, .top, .top, .top, .top, .top, .top, .top, .top, .top, .top, .top, .top, .top, .top, .top, .top, .top, .top, .top, .top, .top, .top, .top, .top, .top, .top, .top, .top, .top, .top, .top, .top, .top, .top, .top, .top, .top, .top, .top, .top, .top, .top, .top, .top, .top, .top, .top, .top, .top, .top, .top, .top, .top, .top, .top, .top, .top, .top, .top, .top, .top, .top, .top, .top, .top, .top, .top, .top, .top, .top, .top, .top, .top, .top, .top, .top, .top, .top, .top, .top, .top, .top, .top], [(0, ⟨42, 5, true, [[.int .i64 p, .int .i64 q, .ro 1 (enc eStr S) false, .int .i64 w, .int .i64 x]], 0⟩)], 1, 0⟩ → W T c4_k0 st' (Lift.Fin c4 (.bool true, [])) := fun p q st' h => ih (i + 1) quiet p q w x S false st' (by omega) hI (.inl rfl) h
    have emp : S = [] → ∀ (p q w x : Int) (st' : ASt), canon [0, 1, 5, 6, 7] st' = ⟨[.int .u8 b, .ro 4 (enc eSt l) fl, .top, .top, .top, .ref 0 0 0, .int .i64 0, .int .i64 ((i + 1 : Nat) : Int), .top, .top, .top, .top, .top, .top, .top, .top, .top, .top, .top, .top, .top, .top, .top, .top, .top, .top, .top, .top, .top, .top, .top, .top, .top, .top, .top, .top, .top, .top, .top, .top, .top, .top, .top, .top, .top, .top, .top, .top, .top, .top, .top, .top, .top, .top, .top, .top, .top, .top, .top, .top, .top, .top, .top, .top, .top, .top, .top, .top, .top, .top, .top, .top, .top, .top, .top, .top, .top, .top, .top, .top, .top, .top, .top, .top, .top, .top, .top, .top, .top, .top, .top, .top, .top, .top, .top, .top, .top, .top, .top, .top, .top, .top, .top, .top, .top, .top, .top, .top, .top, .top, .top, .top, .top, .top, .top, .top, .top, .top, .top, .top, .top, .top, .top, .top, .top, .top, .top, .top, .top, .top, .top, .top, .top, .top, .top, .top, .top, .top, .top, .top, .top, .top, .top, .top, .top, .top, .top, .top, .top, .top], [(0, ⟨42, 5, true, [[.int .i64 p, .int .i64 q, .ro 1 (enc eStr []) false, .int .i64 w, .int .i64 x]], 0⟩)], 1, 0⟩ → W T c4_k0 st' (Lift.Fin c4 (.bool true, [])) := fun _ p q w x st' h => ih (i + 1) 0 p q w x [] false st' (by omega) ⟨List.nodup_nil, by simpa using hb0, fun h => absurd rfl h, fun _ => rfl⟩ (.inl rfl) h
    have fresh : ∀ (p q : Int) (S' : List ByteArray), S'.Nodup → (S'.length : Int) ≤ b → S' ≠ [] → ∀ (st' : ASt), canon [0, 1, 5, 6, 7] st' = ⟨[.int .u8 b, .ro 4 (enc eSt l) fl, .top, .top, .top, .ref 0 0 0, .int .i64 0, .int .i64 ((i + 1 : Nat) : Int), .top, .top, .top, .top, .top, .top, .top, .top, .top, .top, .top, .top, .top, .top, .top, .top, .top, .top, .top, .top, .top, .top, .top, .top, .top, .top, .top, .top, .top, .top, .top, .top, .top, .top, .top, .top, .top, .top, .top, .top, .top, .top, .top, .top, .top, .top, .top, .top, .top, .top, .top, .top, .top, .top, .top, .top, .top, .top, .top, .top, .top, .top, .top, .top, .top, .top, .top, .top, .top, .top, .top, .top, .top, .top, .top, .top, .top, .top, .top, .top, .top, .top, .top, .top, .top, .top, .top, .top, .top, .top, .top, .top, .top, .top, .top, .top, .top, .top, .top, .top, .top, .top, .top, .top, .top, .top, .top, .top, .top, .top, .top, .top, .top, .top, .top, .top, .top, .top, .top, .top, .top, .top, .top, .top, .top, .top, .top, .top, .top, .top, .top, .top, .top, .top, .top, .top, .top, .top, .top, .top, .top, .top], [(0, ⟨42, 5, true, [[.int .i64 p, .int .i64 q, .ro 1 (enc eStr S') false, .int .i64 1, .int .i64 1]], 0⟩)], 1, 0⟩ → W T c4_k0 st' (Lift.Fin c4 (.bool true, [])) := fun p q S' h1 h2 h3 st' h => ih (i + 1) 0 p q 1 1 S' false st' (by omega) ⟨h1, h2, fun _ => ⟨.inl rfl, by omega, by omega, by omega⟩, fun e => absurd e h3⟩ (.inl rfl) h
    by_cases hlg : 20 < t.size
    · exact skip_leaf b l fl quiet p q w x S f i hlt hl d pe se t hs hlg st hc (fun st' h => ih (i + 1) quiet p q w x S f st' (by omega) hI hf h)
    have hle := hI.le
    by_cases hd0 : d = 0
    · by_cases h1 : t.size = 0
      · by_cases he : S = []
        · exact leaf_put0e b l fl hb0 hb1 quiet p q w x S f i hlt hl hI d pe se t hs st hc hd0 h1 he hf hlg (emp he p q w x)
        · exact leaf_put0 b l fl hb0 hb1 quiet p q w x S f i hlt hl hI d pe se t hs st hc hd0 h1 he hf hlg (same p q)
      by_cases h2 : hasT S t = true
      · have he : ¬ S = [] := by
          intro e; rw [e] at h2; cases h2
        exact leaf_put1 b l fl hb0 hb1 quiet p q w x S f i hlt hl hI d pe se t hs st hc hd0 h1 h2 he hf hlg (same p q)
      by_cases h3 : b ≤ S.length
      · by_cases he : S = []
        · exact leaf_put2e b l fl hb0 hb1 quiet p q w x S f i hlt hl hI d pe se t hs st hc hd0 h1 h2 h3 he hf hlg (emp he p q w x)
        · exact leaf_put2 b l fl hb0 hb1 quiet p q w x S f i hlt hl hI d pe se t hs st hc hd0 h1 h2 h3 he hf hlg (same p q)
      by_cases he : S = []
      · exact leaf_put3 b l fl hb0 hb1 quiet p q w x S f i hlt hl hI d pe se t hs st hc hd0 h1 h2 h3 he hf hlg (fresh p q [t] (by simp) (by subst he; simp at h3 ⊢; omega) (by simp))
      · have hn : (S ++ [t]).Nodup := by
          rw [List.nodup_append]
          refine ⟨hI.nd, by simp, fun a ha c hc => ?_⟩
          rw [List.mem_singleton] at hc
          subst hc
          intro e
          subst e
          exact h2 (hasT_iff.2 ha)
        refine leaf_put4 b l fl hb0 hb1 quiet p q w x S f i hlt hl hI d pe se t hs st hc hd0 h1 h2 h3 he hn hf hlg (fun st' h => ih (i + 1) quiet p q w x (S ++ [t]) false st' (by omega) ⟨hn, by simp; omega, fun _ => hI.ne he, fun e => by simp at e⟩ (.inl rfl) h)
    have tl : ¬ S = [] → S.tail.Nodup ∧ (S.tail.length : Int) ≤ b := by
      intro he
      obtain ⟨s, S, rfl⟩ := List.exists_cons_of_ne_nil he
      exact ⟨(List.nodup_cons.1 hI.nd).2, by simp at hle ⊢; omega⟩
    by_cases hd1 : d = 1
    · by_cases he : S = []
      · exact leaf_acka0e b l fl hb0 hb1 quiet p q w x S f i hlt hl hI d pe se t hs st hc hd1 he hf hlg (emp he p q w x)
      by_cases ht : S.tail = []
      · exact leaf_acka1 b l fl hb0 hb1 quiet p q w x S f i hlt hl hI d pe se t hs st hc hd1 he ht hf hlg (fun st' h => ih (i + 1) 0 p _ 1 0 [] false st' (by omega) ⟨List.nodup_nil, by simpa using hb0, fun h => absurd rfl h, fun _ => rfl⟩ (.inl rfl) h)
      · exact leaf_acka2 b l fl hb0 hb1 quiet p q w x S f i hlt hl hI d pe se t hs st hc hd1 he ht hf hlg (fresh p _ S.tail (tl he).1 (tl he).2 ht)
    by_cases hd2 : d = 2
    · by_cases he : S = []
      · exact leaf_ackb0e b l fl hb0 hb1 quiet p q w x S f i hlt hl hI d pe se t hs st hc hd2 he hf hlg (emp he p q w x)
      by_cases h1 : pe ≠ p ∨ se ≠ q
      · exact leaf_ackb0 b l fl hb0 hb1 quiet p q w x S f i hlt hl hI d pe se t hs st hc hd2 he h1 hf hlg (same p q)
      have h1' : pe = p ∧ se = q := ⟨Decidable.byContradiction fun e => h1 (.inl e), Decidable.byContradiction fun e => h1 (.inr e)⟩
      by_cases ht : S.tail = []
      · exact leaf_ackb1 b l fl hb0 hb1 quiet p q w x S f i hlt hl hI d pe se t hs st hc hd2 he h1' ht hf hlg (fun st' h => ih (i + 1) 0 p _ 1 0 [] false st' (by omega) ⟨List.nodup_nil, by simpa using hb0, fun h => absurd rfl h, fun _ => rfl⟩ (.inl rfl) h)
      · exact leaf_ackb2 b l fl hb0 hb1 quiet p q w x S f i hlt hl hI d pe se t hs st hc hd2 he h1' ht hf hlg (fresh p _ S.tail (tl he).1 (tl he).2 ht)
    by_cases hd3 : d = 3
    · by_cases h1 : pe ≤ p
      · by_cases he : S = []
        · exact leaf_lrn0e b l fl hb0 hb1 quiet p q w x S f i hlt hl hI d pe se t hs st hc hd3 h1 he hf hlg (emp he p q w x)
        · exact leaf_lrn0 b l fl hb0 hb1 quiet p q w x S f i hlt hl hI d pe se t hs st hc hd3 h1 he hf hlg (same p q)
      · by_cases he : S = []
        · exact leaf_lrn1 b l fl hb0 hb1 quiet p q w x S f i hlt hl hI d pe se t hs st hc hd3 h1 he hf hlg (emp he pe 1 w x)
        · exact leaf_lrn2 b l fl hb0 hb1 quiet p q w x S f i hlt hl hI d pe se t hs st hc hd3 h1 he hf hlg (fresh pe 1 S hI.nd hle he)
    by_cases he : S = []
    · exact leaf_tik0 b l fl hb0 hb1 quiet p q w x S f i hlt hl hI d pe se t hs st hc hd0 hd1 hd2 hd3 he hf hlg (emp he p q w x)
    obtain ⟨g1, g2, g3, g4⟩ := hI.ne he
    by_cases h1 : x = 1
    · have hn := nxt_ok g1
      exact leaf_tik1 b l fl hb0 hb1 quiet p q w x S f i hlt hl hI d pe se t hs st hc hd0 hd1 hd2 hd3 he h1 hf hlg (fun st' h => ih (i + 1) 0 p q (nxt w) (nxt w) S false st' (by omega) ⟨hI.nd, hle, fun _ => ⟨hn.1, hn.2, by omega, by omega⟩, fun e => absurd e he⟩ (.inl rfl) h)
    · exact leaf_tik2 b l fl hb0 hb1 quiet p q w x S f i hlt hl hI d pe se t hs st hc hd0 hd1 hd2 hd3 he h1 hf hlg (fun st' h => ih (i + 1) (quiet + 1) p q w (x - 1) S false st' (by omega) ⟨hI.nd, hle, fun _ => ⟨g1, by omega, by omega, by omega⟩, fun e => absurd e he⟩ (.inl rfl) h)

theorem sentKeeps (b : Int) (l : List St) (fl : Bool) (hb0 : 0 ≤ b) (hb1 : b ≤ 255) (hl : l.length ≤ maxLen) : F T 4 [.int .u8 b, .ro 4 (enc eSt l) fl] [] = some (.bool true, []) := by
  by_cases hbig : 60 < l.length
  · have hbig2 : (60 : Int) < l.length := by omega
    refine F_W T4 ?_
    simp only [c4, c4_b, Lift.start]
    repeat (first | refine W_assoc ?_ | (show W _ (.seq (.region _ _) _) _ _; refine W_reg (by simp; with_reducible rfl) ?_) | (show R _ _ _ (_ :: _) _ _ _ _; refine R_op (by simp (maxSteps := 2000000) [V_works24, hbig, hbig2]; with_reducible rfl) ?_) | (show R _ _ _ [] _ _ _ _; refine R_nil (by simp; with_reducible rfl) ?_) | (show W _ (.seq (.cond _ _ _) _) _ _; first | refine W_ct (by first | (simp [V_works24, hbig, hbig2]; done) | fail) ?_ | refine W_cf (by first | (simp [V_works24, hbig, hbig2]; done) | fail) ?_) | refine W_skip ?_ | refine W_bl (c := .seq _ _) ?_ | refine W_bl (c := .region _ _) ?_ | refine W_bl (c := .cond _ _ _) ?_ | refine W_bl (c := .block _ _) ?_ | refine W_rt ?_ | refine W_ex ?_ | refine W_end ?_ | refine W_tail (a := .region _ _) ?_ | refine W_tail (a := .cond _ _ _) ?_ | refine W_tail (a := .ret) ?_ | refine W_tail (a := .exit _) ?_ | refine W_tail (a := .block _ _) ?_ | refine QB_normal ?_ | refine QB_exit ?_ | refine QB_ret ?_ | refine QB_out (by decide) ?_ | refine QL_next ?_ | refine QL_exit ?_ | refine QL_ret ?_ | refine QL_out (by decide) ?_ | (show Fin _ _ .ret _; exact Fin_ret (by first | (simp [c4]; done) | (simp [c4]; with_reducible rfl))) | (show Fin _ _ .normal _; exact Fin_end (by first | (simp [c4]; done) | (simp [c4]; with_reducible rfl))))
  · have hbig2 : ¬ (60 : Int) < l.length := by omega
    refine F_W T4 ?_
    simp only [c4, c4_b, Lift.start]
    repeat (first | refine W_assoc ?_ | (show W _ (.seq (.region _ _) _) _ _; refine W_reg (by simp; with_reducible rfl) ?_) | (show R _ _ _ (_ :: _) _ _ _ _; refine R_op (by simp (maxSteps := 2000000) [V_new, hbig, hbig2]; with_reducible rfl) ?_) | (show R _ _ _ [] _ _ _ _; refine R_nil (by simp; with_reducible rfl) ?_) | (show W _ (.seq (.cond _ _ _) _) _ _; first | refine W_ct (by first | (simp [V_new, hbig, hbig2]; done) | fail) ?_ | refine W_cf (by first | (simp [V_new, hbig, hbig2]; done) | fail) ?_) | refine W_skip ?_ | refine W_bl (c := .seq _ _) ?_ | refine W_bl (c := .region _ _) ?_ | refine W_bl (c := .cond _ _ _) ?_ | refine W_bl (c := .block _ _) ?_ | refine W_rt ?_ | refine W_ex ?_ | refine W_end ?_ | refine W_tail (a := .region _ _) ?_ | refine W_tail (a := .cond _ _ _) ?_ | refine W_tail (a := .ret) ?_ | refine W_tail (a := .exit _) ?_ | refine W_tail (a := .block _ _) ?_ | refine QB_normal ?_ | refine QB_exit ?_ | refine QB_ret ?_ | refine QB_out (by decide) ?_ | refine QL_next ?_ | refine QL_exit ?_ | refine QL_ret ?_ | refine QL_out (by decide) ?_ | (show Fin _ _ .ret _; exact Fin_ret (by first | (simp; done) | (simp; with_reducible rfl))) | (show Fin _ _ .normal _; exact Fin_end (by first | (simp; done) | (simp; with_reducible rfl))))
    exact steps b l fl hb0 hb1 (by omega) l.length 0 0 1 1 1 0 [] true _ (by omega) ⟨List.nodup_nil, by simpa using hb0, fun h => absurd rfl h, fun _ => rfl⟩ (.inr rfl) (by simp; try rfl)

end Go.Proofs.Ytleeafkkgepblaa.Sent
