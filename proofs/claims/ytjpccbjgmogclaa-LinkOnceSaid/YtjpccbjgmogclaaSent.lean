/- An outbox: what is sent till it is answered: what the functions come to. -/
import Derived.Test.YtjpccbjgmogclaaTLK
import Derived.Test.YtjpccbjgmogclaaBase
set_option linter.all false
set_option linter.unusedSimpArgs false
set_option maxRecDepth 100000
set_option maxHeartbeats 4000000
namespace Go.Proofs.Ytjpccbjgmogclaa.Sent
open Go Go.RowKit Go.Proofs.Ytjpccbjgmogclaa.Lift Go.Proofs.Ytjpccbjgmogclaa.TLK Go.Proofs.Ytjpccbjgmogclaa.Base

@[simp] theorem row_str (s : ByteArray) : [[AV.str s]] = enc eStr [s] := rfl

theorem F_clo (l : List ByteArray) (f : Bool) (hl : l.length ≤ 1000000) : F T 99 [.ro 1 (enc eStr l) f] [] = some (.own 0 0 l.length, [⟨9, 1, false, enc eStr l, 0⟩]) :=
  F_cloneE T99 rfl (.inl rfl) (by omega) (by omega)

theorem R03_Same_loop (l m : List ByteArray) (hl : l.length ≤ 140737488355328) (hlm : l.length = m.length) :
    ∀ (k i : Nat) (st : ASt), i + k = l.length → canon [0, 1, 5] st = ⟨[.ro 1 (enc eStr l) false, .ro 1 (enc eStr m) false, .top, .top, .top, .int .i64 i, .top, .top, .top, .top, .top, .top, .top, .top, .top, .top, .top, .top, .top, .top, .top, .top, .top, .top, .top, .top], [], 0, 0⟩ → W T c19_k0 st (Lift.Fin c19 (.bool (decide (l.drop i = m.drop i)), [])) := by
  intro k
  induction k with
  | zero =>
    intro i st hi hc
    have h1 : ¬ i < l.length := by omega
    have e1 : l.drop i = [] := List.drop_of_length_le (by omega)
    have e2 : m.drop i = [] := List.drop_of_length_le (by omega)
    unfold c19_k0
    refine W_exit (by rw [hc]; simp (maxSteps := 2000000) [c19_l0, h1]; with_reducible rfl) ?_
    exact W_fin (ex := .ret) (by simp (maxSteps := 2000000); with_reducible rfl) (by simp) (by first | (simp [c19, e1, e2]; done) | (simp [c19, e1, e2]; with_reducible rfl))
  | succ k ih =>
    intro i st hi hc
    have hlt : i < l.length := by omega
    have hlt2 : i < m.length := by omega
    have hw := wrapS i _ hlt hl
    have d1 := List.drop_eq_getElem_cons hlt
    have d2 := List.drop_eq_getElem_cons hlt2
    unfold c19_k0
    by_cases he : l[i] = m[i]
    · rw [d1, d2, he]
      simp only [List.cons.injEq, true_and]
      refine W_next (by rw [hc]; simp (maxSteps := 2000000) [c19_l0, hlt, hlt2, hw, he, eqCs, hlm]; with_reducible rfl) ?_
      exact ih (i + 1) _ (by omega) (by simp [hlm])
    · have hd : decide (l.drop i = m.drop i) = false := by
        rw [decide_eq_false_iff_not, d1, d2]; intro e; injection e with e _; exact he e
      rw [hd]
      exact W_ret (by rw [hc]; simp (maxSteps := 2000000) [c19_l0, hlt, hlt2, he, hlm]; with_reducible rfl) (Fin_ret (by simp [c19]))

theorem F_R03_Same (l m : List ByteArray) (hl : l.length ≤ 1000000) (hm : m.length ≤ 1000000) : F T 19 [.ro 1 (enc eStr l) false, .ro 1 (enc eStr m) false] [] = some (.bool (decide (l = m)), []) := by
  refine F_W T19 ?_
  by_cases h : l.length = m.length
  · simp only [c19, c19_b, Lift.start]
    repeat (first | refine W_assoc ?_ | refine W_go (a := .region _ _) (by simp (maxSteps := 2000000) [h]; with_reducible rfl) ?_ | refine W_go (a := .cond _ _ _) (by simp (maxSteps := 2000000) [h]; with_reducible rfl) ?_ | refine W_go (a := .block _ (.seq _ _)) (by simp (maxSteps := 2000000) [h]; with_reducible rfl) ?_)
    have := R03_Same_loop l m (by omega) h l.length 0
    simp only [List.drop_zero] at this
    exact this _ (by simp) (by simp [h])
  · have h1 : decide (l = m) = false := by
      rw [decide_eq_false_iff_not]; intro e; exact h (by rw [e])
    have h2 : ¬ (l.length : Int) = (m.length : Int) := by omega
    rw [h1]
    exact W_fin (ex := .ret) (by simp (maxSteps := 2000000) [c19, c19_b, h2, h]; with_reducible rfl) (by simp) (by first | (simp [c19]; done) | (simp [c19]; with_reducible rfl))


theorem V_pnew : FV (F T) 95 [] = some (.agg [.int .i64 1, .int .i64 0]) := by
  refine FV_W T95 (r := ?r1) (W_fin (ex := .ret) (by simp [c95, c95_b]; with_reducible rfl) (by simp) (by first | (simp [c95]; done) | (simp [c95]; with_reducible rfl))) (by simp)

theorem V_start (w l : Int) : FV (F T) 100 [.agg [.int .i64 w, .int .i64 l]] = some (.agg [.int .i64 1, .int .i64 1]) := by
  refine FV_W T100 (r := ?r2) (W_fin (ex := .ret) (by simp [c100, c100_b, V_pnew]; with_reducible rfl) (by simp) (by first | (simp [c100]; done) | (simp [c100]; with_reducible rfl))) (by simp)

theorem V_stop (w l : Int) : FV (F T) 110 [.agg [.int .i64 w, .int .i64 l]] = some (.agg [.int .i64 1, .int .i64 0]) := by
  by_cases h1 : w = 1
  · by_cases h2 : l = 0
    · refine FV_W T110 (r := ?r3) (W_fin (ex := .ret) (by simp [c110, c110_b, V_pnew, h1, h2, eqCs]; with_reducible rfl) (by simp) (by first | (simp [c110]; done) | (simp [c110]; with_reducible rfl))) (by simp)
    · refine FV_W T110 (r := ?r4) (W_fin (ex := .ret) (by simp [c110, c110_b, V_pnew, h1, h2, eqCs]; with_reducible rfl) (by simp) (by first | (simp [c110]; done) | (simp [c110]; with_reducible rfl))) (by simp)
  · refine FV_W T110 (r := ?r5) (W_fin (ex := .ret) (by simp [c110, c110_b, V_pnew, h1, eqCs]; with_reducible rfl) (by simp) (by first | (simp [c110]; done) | (simp [c110]; with_reducible rfl))) (by simp)

theorem an1 : IntKind.i64.wrap ((1 % 2 ^ IntKind.i64.bits &&& (IntKind.i64.wrap 0 % 2 ^ IntKind.i64.bits).toNat : Nat) : Int) = 0 := by decide
theorem an2 : IntKind.i64.wrap ((2 % 2 ^ IntKind.i64.bits &&& (IntKind.i64.wrap 1 % 2 ^ IntKind.i64.bits).toNat : Nat) : Int) = 0 := by decide
theorem an4 : IntKind.i64.wrap ((4 % 2 ^ IntKind.i64.bits &&& (IntKind.i64.wrap 3 % 2 ^ IntKind.i64.bits).toNat : Nat) : Int) = 0 := by decide
theorem an8 : IntKind.i64.wrap ((8 % 2 ^ IntKind.i64.bits &&& (IntKind.i64.wrap 7 % 2 ^ IntKind.i64.bits).toNat : Nat) : Int) = 0 := by decide
theorem wr0 : IntKind.i64.wrap 0 = 0 := by decide
theorem wr2 : IntKind.i64.wrap 2 = 2 := by decide
theorem wr4 : IntKind.i64.wrap 4 = 4 := by decide
theorem wr8 : IntKind.i64.wrap 8 = 8 := by decide
theorem wr16 : IntKind.i64.wrap 16 = 16 := by decide

/-- A wait that may be. -/
def wok (w : Int) : Prop := w = 1 ∨ w = 2 ∨ w = 4 ∨ w = 8

theorem V_check (w l : Int) (hw : wok w) (h0 : 0 ≤ l) (hl : l ≤ w) : FV (F T) 190 [.agg [.int .i64 w, .int .i64 l]] = some (.bool true) := by
  have h2 : ¬ l < 0 := by omega
  rcases hw with rfl | rfl | rfl | rfl
  · have h1 : ¬ 1 < l := by omega
    refine FV_W T190 (r := ?r6) (W_fin (ex := .ret) (by simp [c190, c190_b, h1, h2, an1, an2, an4, an8]; with_reducible rfl) (by simp) (by first | (simp [c190]; done) | (simp [c190]; with_reducible rfl))) (by simp)
  · have h1 : ¬ 2 < l := by omega
    refine FV_W T190 (r := ?r7) (W_fin (ex := .ret) (by simp [c190, c190_b, h1, h2, an1, an2, an4, an8]; with_reducible rfl) (by simp) (by first | (simp [c190]; done) | (simp [c190]; with_reducible rfl))) (by simp)
  · have h1 : ¬ 4 < l := by omega
    refine FV_W T190 (r := ?r8) (W_fin (ex := .ret) (by simp [c190, c190_b, h1, h2, an1, an2, an4, an8]; with_reducible rfl) (by simp) (by first | (simp [c190]; done) | (simp [c190]; with_reducible rfl))) (by simp)
  · have h1 : ¬ 8 < l := by omega
    refine FV_W T190 (r := ?r9) (W_fin (ex := .ret) (by simp [c190, c190_b, h1, h2, an1, an2, an4, an8]; with_reducible rfl) (by simp) (by first | (simp [c190]; done) | (simp [c190]; with_reducible rfl))) (by simp)

theorem V_fine (w l : Int) (hw : wok w) (h0 : 0 ≤ l) (hl : l ≤ w) : FV (F T) 156 [.agg [.int .i64 w, .int .i64 l]] = some (.agg [.int .i64 w, .int .i64 l]) := by
  have f1 := V_check w l hw h0 hl
  refine FV_W T156 (r := ?r10) (W_fin (ex := .ret) (by simp [c156, c156_b, f1]; with_reducible rfl) (by simp) (by first | (simp [c156]; done) | (simp [c156]; with_reducible rfl))) (by simp)

/-- The next wait. -/
def nxt (w : Int) : Int := if 2 * w ≤ 8 then 2 * w else 8

theorem V_tick (w l : Int) (hw : wok w) (h0 : 1 ≤ l) (hl : l ≤ w) : FV (F T) 112 [.agg [.int .i64 w, .int .i64 l]] = some (if l = 1 then .tup [.agg [.int .i64 (nxt w), .int .i64 (nxt w)], .bool true] else .tup [.agg [.int .i64 w, .int .i64 (l - 1)], .bool false]) := by
  have f1 := V_fine w l hw (by omega) hl
  have hl0 : ¬ l = 0 := by omega
  have w1 : IntKind.i64.wrap (l - 1) = l - 1 := by rw [wrap_i64 _ (by omega) (by rcases hw with rfl | rfl | rfl | rfl <;> omega)]
  by_cases h1 : l = 1
  · subst h1
    rw [if_pos rfl]
    unfold nxt
    rcases hw with rfl | rfl | rfl | rfl
    · refine FV_W T112 (r := ?r11) (W_fin (ex := .ret) (by simp [c112, c112_b, f1, wr0, wr2, wr4, wr8, wr16]; with_reducible rfl) (by simp) (by first | (simp [c112]; done) | (simp [c112]; with_reducible rfl))) (by simp)
    · refine FV_W T112 (r := ?r12) (W_fin (ex := .ret) (by simp [c112, c112_b, f1, wr0, wr2, wr4, wr8, wr16]; with_reducible rfl) (by simp) (by first | (simp [c112]; done) | (simp [c112]; with_reducible rfl))) (by simp)
    · refine FV_W T112 (r := ?r13) (W_fin (ex := .ret) (by simp [c112, c112_b, f1, wr0, wr2, wr4, wr8, wr16]; with_reducible rfl) (by simp) (by first | (simp [c112]; done) | (simp [c112]; with_reducible rfl))) (by simp)
    · refine FV_W T112 (r := ?r14) (W_fin (ex := .ret) (by simp [c112, c112_b, f1, wr0, wr2, wr4, wr8, wr16]; with_reducible rfl) (by simp) (by first | (simp [c112]; done) | (simp [c112]; with_reducible rfl))) (by simp)
  · have h2 : 0 < l - 1 := by omega
    have h3 : 1 < l := by omega
    rw [if_neg h1]
    refine FV_W T112 (r := ?r15) (W_fin (ex := .ret) (by simp [c112, c112_b, f1, hl0, w1, h2, h3]; with_reducible rfl) (by simp) (by first | (simp [c112]; done) | (simp [c112]; with_reducible rfl))) (by simp)

theorem V_new : FV (F T) 50 [] = some (.agg [.int .i64 1, .int .i64 1, .ro 1 [] true, .int .i64 1, .int .i64 0]) := by
  refine FV_W T50 (r := ?r16) (W_fin (ex := .ret) (by simp [c50, c50_b, V_pnew]; with_reducible rfl) (by simp) (by first | (simp [c50]; done) | (simp [c50]; with_reducible rfl))) (by simp)

theorem F_put1 (s t : ByteArray) : F T 97 [.str s, .rref [.str t]] [] = some (.bool (decide (s = t)), []) := by
  refine F_W T97 ?_
  simp only [c97, c97_b, Lift.start]
  repeat (first | refine W_assoc ?_ | (show W _ (.seq (.region _ _) _) _ _; refine W_reg (by simp; with_reducible rfl) ?_) | (show R _ _ _ (_ :: _) _ _ _ _; refine R_op (by simp (maxSteps := 2000000); with_reducible rfl) ?_) | (show R _ _ _ [] _ _ _ _; refine R_nil (by simp; with_reducible rfl) ?_) | (show W _ (.seq (.cond _ _ _) _) _ _; first | refine W_ct (by first | (simp; done) | fail) ?_ | refine W_cf (by first | (simp; done) | fail) ?_) | refine W_skip ?_ | refine W_bl (c := .seq _ _) ?_ | refine W_bl (c := .region _ _) ?_ | refine W_bl (c := .cond _ _ _) ?_ | refine W_bl (c := .block _ _) ?_ | refine W_rt ?_ | refine W_ex ?_ | refine W_end ?_ | refine W_tail (a := .region _ _) ?_ | refine W_tail (a := .cond _ _ _) ?_ | refine W_tail (a := .ret) ?_ | refine W_tail (a := .exit _) ?_ | refine W_tail (a := .block _ _) ?_ | refine QB_normal ?_ | refine QB_exit ?_ | refine QB_ret ?_ | refine QB_out (by decide) ?_ | refine QL_next ?_ | refine QL_exit ?_ | refine QL_ret ?_ | refine QL_out (by decide) ?_ | (show Fin _ _ .ret _; exact Fin_ret (by first | (simp [c97]; done) | (simp [c97]; with_reducible rfl))) | (show Fin _ _ .normal _; exact Fin_end (by first | (simp [c97]; done) | (simp [c97]; with_reducible rfl))))

/-- Is a text there? -/
def hasT (l : List ByteArray) (t : ByteArray) : Bool := l.any fun x => decide (x = t)
theorem hasT_iff {l : List ByteArray} {t : ByteArray} : hasT l t = true ↔ t ∈ l := by
  unfold hasT
  rw [List.any_eq_true]
  refine ⟨fun ⟨x, h1, h2⟩ => ?_, fun h => ⟨t, h, by simp⟩⟩
  have : x = t := by simpa using h2
  rw [← this]; exact h1

/-- Where a text is first, from a place on. -/
def fidxF (t : ByteArray) (l : List ByteArray) (i : Nat) : Int := match (l.drop i).findIdx? (fun x => decide (x = t)) with | some j => ((i + j : Nat) : Int) | none => -1

theorem fidxF_end (t : ByteArray) (l : List ByteArray) (i : Nat) (h : l.drop i = []) : fidxF t l i = -1 := by unfold fidxF; rw [h]; rfl

theorem fidxF_hit (t : ByteArray) (l : List ByteArray) (i : Nat) (h : i < l.length) (e : l[i] = t) : fidxF t l i = i := by
  unfold fidxF
  rw [List.drop_eq_getElem_cons h, List.findIdx?_cons]
  simp [e]

theorem fidxF_miss (t : ByteArray) (l : List ByteArray) (i : Nat) (h : i < l.length) (e : ¬ l[i] = t) : fidxF t l i = fidxF t l (i + 1) := by
  unfold fidxF
  rw [List.drop_eq_getElem_cons h, List.findIdx?_cons]
  simp only [e, decide_false, Bool.false_eq_true, if_false]
  cases (l.drop (i + 1)).findIdx? (fun x => decide (x = t)) with
  | none => rfl
  | some j => simp only [Option.map_some]; congr 1; omega

theorem fidxF_mem (t : ByteArray) (l : List ByteArray) : 0 ≤ fidxF t l 0 ↔ t ∈ l := by
  unfold fidxF
  rw [List.drop_zero]
  cases h : l.findIdx? (fun x => decide (x = t)) with
  | none =>
    rw [List.findIdx?_eq_none_iff] at h
    simp only []
    refine ⟨fun h' => by omega, fun hm => ?_⟩
    have := h t hm
    simp at this
  | some j =>
    obtain ⟨h1, h2, _⟩ := List.findIdx?_eq_some_iff_getElem.1 h
    refine ⟨fun _ => ?_, fun _ => by simp only []; omega⟩
    have h3 : l[j] = t := by simpa using h2
    rw [← h3]
    exact List.getElem_mem h1

theorem fidxF_nodup (l : List ByteArray) (hn : l.Nodup) (k : Nat) (hk : k < l.length) : fidxF l[k] l 0 = k := by
  unfold fidxF
  rw [List.drop_zero]
  have : l.findIdx? (fun x => decide (x = l[k])) = some k := by
    rw [List.findIdx?_eq_some_iff_getElem]
    refine ⟨hk, by simp, fun j hj => ?_⟩
    simp only [decide_eq_true_eq]
    intro e
    have := List.pairwise_iff_getElem.1 hn j k (by omega) hk hj
    exact this e
  rw [this]; simp

theorem idx_loop (t : ByteArray) (l : List ByteArray) (f : Bool) (hl : l.length ≤ 140737488355328) :
    ∀ (k i : Nat) (st : ASt), i + k = l.length → canon [0, 1, 7, 8] st = ⟨[.ro 1 (enc eStr l) f, .fn (.func 97) [] [.rref [.str t]], .top, .top, .top, .top, .top, .int .i64 l.length, .int .i64 i, .top, .top, .top, .top, .top, .top, .top, .top, .top, .top], [], 0, 0⟩ →
      W T c155_k0 st (Lift.Fin c155 (.int .i64 (fidxF t l i), [])) := by
  intro k
  induction k with
  | zero =>
    intro i st hi hc
    have h1 : ¬ i < l.length := by omega
    have e1 : l.drop i = [] := List.drop_of_length_le (by omega)
    rw [fidxF_end t l i e1]
    unfold c155_k0
    refine W_round hc ?_
    unfold c155_l0
    repeat (first | refine W_assoc ?_ | (show W _ (.seq (.region _ _) _) _ _; refine W_reg (by simp; with_reducible rfl) ?_) | (show R _ _ _ (_ :: _) _ _ _ _; refine R_op (by simp (maxSteps := 2000000) [h1]; with_reducible rfl) ?_) | (show R _ _ _ [] _ _ _ _; refine R_nil (by simp; with_reducible rfl) ?_) | (show W _ (.seq (.cond _ _ _) _) _ _; first | refine W_ct (by first | (simp [h1]; done) | fail) ?_ | refine W_cf (by first | (simp [h1]; done) | fail) ?_) | refine W_skip ?_ | refine W_bl (c := .seq _ _) ?_ | refine W_bl (c := .region _ _) ?_ | refine W_bl (c := .cond _ _ _) ?_ | refine W_bl (c := .block _ _) ?_ | refine W_rt ?_ | refine W_ex ?_ | refine W_end ?_ | refine W_tail (a := .region _ _) ?_ | refine W_tail (a := .cond _ _ _) ?_ | refine W_tail (a := .ret) ?_ | refine W_tail (a := .exit _) ?_ | refine W_tail (a := .block _ _) ?_ | refine QB_normal ?_ | refine QB_exit ?_ | refine QB_ret ?_ | refine QB_out (by decide) ?_ | refine QL_next ?_ | refine QL_exit ?_ | refine QL_ret ?_ | refine QL_out (by decide) ?_ | (show Fin _ _ .ret _; exact Fin_ret (by first | (simp [c155]; done) | (simp [c155]; with_reducible rfl))) | (show Fin _ _ .normal _; exact Fin_end (by first | (simp [c155]; done) | (simp [c155]; with_reducible rfl))))
  | succ k ih =>
    intro i st hi hc
    have hlt : i < l.length := by omega
    have hw := wrapS i _ hlt hl
    have d1 := List.drop_eq_getElem_cons hlt
    have f1 := F_put1 l[i] t
    unfold c155_k0
    by_cases he : l[i] = t
    · rw [fidxF_hit t l i hlt he]
      rw [decide_eq_true he] at f1
      refine W_round hc ?_
      unfold c155_l0
      repeat (first | refine W_assoc ?_ | (show W _ (.seq (.region _ _) _) _ _; refine W_reg (by simp; with_reducible rfl) ?_) | (show R _ _ _ (_ :: _) _ _ _ _; refine R_op (by simp (maxSteps := 2000000) [hlt, hw, f1]; with_reducible rfl) ?_) | (show R _ _ _ [] _ _ _ _; refine R_nil (by simp; with_reducible rfl) ?_) | (show W _ (.seq (.cond _ _ _) _) _ _; first | refine W_ct (by first | (simp [hlt, hw, f1]; done) | fail) ?_ | refine W_cf (by first | (simp [hlt, hw, f1]; done) | fail) ?_) | refine W_skip ?_ | refine W_bl (c := .seq _ _) ?_ | refine W_bl (c := .region _ _) ?_ | refine W_bl (c := .cond _ _ _) ?_ | refine W_bl (c := .block _ _) ?_ | refine W_rt ?_ | refine W_ex ?_ | refine W_end ?_ | refine W_tail (a := .region _ _) ?_ | refine W_tail (a := .cond _ _ _) ?_ | refine W_tail (a := .ret) ?_ | refine W_tail (a := .exit _) ?_ | refine W_tail (a := .block _ _) ?_ | refine QB_normal ?_ | refine QB_exit ?_ | refine QB_ret ?_ | refine QB_out (by decide) ?_ | refine QL_next ?_ | refine QL_exit ?_ | refine QL_ret ?_ | refine QL_out (by decide) ?_ | (show Fin _ _ .ret _; exact Fin_ret (by first | (simp [c155]; done) | (simp [c155]; with_reducible rfl))) | (show Fin _ _ .normal _; exact Fin_end (by first | (simp [c155]; done) | (simp [c155]; with_reducible rfl))))
    · rw [fidxF_miss t l i hlt he]
      rw [decide_eq_false he] at f1
      refine W_round hc ?_
      unfold c155_l0
      repeat (first | refine W_assoc ?_ | (show W _ (.seq (.region _ _) _) _ _; refine W_reg (by simp; with_reducible rfl) ?_) | (show R _ _ _ (_ :: _) _ _ _ _; refine R_op (by simp (maxSteps := 2000000) [hlt, hw, f1]; with_reducible rfl) ?_) | (show R _ _ _ [] _ _ _ _; refine R_nil (by simp; with_reducible rfl) ?_) | (show W _ (.seq (.cond _ _ _) _) _ _; first | refine W_ct (by first | (simp [hlt, hw, f1]; done) | fail) ?_ | refine W_cf (by first | (simp [hlt, hw, f1]; done) | fail) ?_) | refine W_skip ?_ | refine W_bl (c := .seq _ _) ?_ | refine W_bl (c := .region _ _) ?_ | refine W_bl (c := .cond _ _ _) ?_ | refine W_bl (c := .block _ _) ?_ | refine W_rt ?_ | refine W_ex ?_ | refine W_end ?_ | refine W_tail (a := .region _ _) ?_ | refine W_tail (a := .cond _ _ _) ?_ | refine W_tail (a := .ret) ?_ | refine W_tail (a := .exit _) ?_ | refine W_tail (a := .block _ _) ?_ | refine QB_normal ?_ | refine QB_exit ?_ | refine QB_ret ?_ | refine QB_out (by decide) ?_ | refine QL_next ?_ | refine QL_exit ?_ | refine QL_ret ?_ | refine QL_out (by decide) ?_ | (show Fin _ _ .ret _; exact Fin_ret (by first | (simp [c155]; done) | (simp [c155]; with_reducible rfl))) | (show Fin _ _ .normal _; exact Fin_end (by first | (simp [c155]; done) | (simp [c155]; with_reducible rfl))))
      exact ih (i + 1) _ (by omega) (by simp; try rfl)

theorem F_idx (t : ByteArray) (l : List ByteArray) (f : Bool) (hl : l.length ≤ 100000) : F T 155 [.ro 1 (enc eStr l) f, .fn (.func 97) [] [.rref [.str t]]] [] = some (.int .i64 (fidxF t l 0), []) := by
  refine F_W T155 ?_
  simp only [c155, c155_b, Lift.start]
  repeat (first | refine W_assoc ?_ | (show W _ (.seq (.region _ _) _) _ _; refine W_reg (by simp; with_reducible rfl) ?_) | (show R _ _ _ (_ :: _) _ _ _ _; refine R_op (by simp (maxSteps := 2000000); with_reducible rfl) ?_) | (show R _ _ _ [] _ _ _ _; refine R_nil (by simp; with_reducible rfl) ?_) | (show W _ (.seq (.cond _ _ _) _) _ _; first | refine W_ct (by first | (simp; done) | fail) ?_ | refine W_cf (by first | (simp; done) | fail) ?_) | refine W_skip ?_ | refine W_bl (c := .seq _ _) ?_ | refine W_bl (c := .region _ _) ?_ | refine W_bl (c := .cond _ _ _) ?_ | refine W_bl (c := .block _ _) ?_ | refine W_rt ?_ | refine W_ex ?_ | refine W_end ?_ | refine W_tail (a := .region _ _) ?_ | refine W_tail (a := .cond _ _ _) ?_ | refine W_tail (a := .ret) ?_ | refine W_tail (a := .exit _) ?_ | refine W_tail (a := .block _ _) ?_ | refine QB_normal ?_ | refine QB_exit ?_ | refine QB_ret ?_ | refine QB_out (by decide) ?_ | refine QL_next ?_ | refine QL_exit ?_ | refine QL_ret ?_ | refine QL_out (by decide) ?_ | (show Fin _ _ .ret _; exact Fin_ret (by first | (simp; done) | (simp; with_reducible rfl))) | (show Fin _ _ .normal _; exact Fin_end (by first | (simp; done) | (simp; with_reducible rfl))))
  exact idx_loop t l f (by omega) l.length 0 _ (by omega) (by simp; try rfl)

theorem F_con (t : ByteArray) (l : List ByteArray) (hl : l.length ≤ 100000) : F T 96 [.ro 1 (enc eStr l) false, .fn (.func 97) [] [.rref [.str t]]] [] = some (.bool (hasT l t), []) := by
  have f1 : FV (F T) 155 [.ro 1 (enc eStr l) false, .fn (.func 97) [] [.rref [.str t]]] = some (.int .i64 (fidxF t l 0)) := by simpa using FV_of (F_idx t l false hl)
  have h := fidxF_mem t l
  refine F_W T96 ?_
  simp only [c96, c96_b, Lift.start]
  rw [← hasT_iff] at h
  by_cases hm : hasT l t = true
  · have h2 := h.2 hm
    rw [hm]
    repeat (first | refine W_assoc ?_ | (show W _ (.seq (.region _ _) _) _ _; refine W_reg (by simp; with_reducible rfl) ?_) | (show R _ _ _ (_ :: _) _ _ _ _; refine R_op (by simp (maxSteps := 2000000) [f1, h2]; with_reducible rfl) ?_) | (show R _ _ _ [] _ _ _ _; refine R_nil (by simp; with_reducible rfl) ?_) | (show W _ (.seq (.cond _ _ _) _) _ _; first | refine W_ct (by first | (simp [f1, h2]; done) | fail) ?_ | refine W_cf (by first | (simp [f1, h2]; done) | fail) ?_) | refine W_skip ?_ | refine W_bl (c := .seq _ _) ?_ | refine W_bl (c := .region _ _) ?_ | refine W_bl (c := .cond _ _ _) ?_ | refine W_bl (c := .block _ _) ?_ | refine W_rt ?_ | refine W_ex ?_ | refine W_end ?_ | refine W_tail (a := .region _ _) ?_ | refine W_tail (a := .cond _ _ _) ?_ | refine W_tail (a := .ret) ?_ | refine W_tail (a := .exit _) ?_ | refine W_tail (a := .block _ _) ?_ | refine QB_normal ?_ | refine QB_exit ?_ | refine QB_ret ?_ | refine QB_out (by decide) ?_ | refine QL_next ?_ | refine QL_exit ?_ | refine QL_ret ?_ | refine QL_out (by decide) ?_ | (show Fin _ _ .ret _; exact Fin_ret (by first | (simp [c96]; done) | (simp [c96]; with_reducible rfl))) | (show Fin _ _ .normal _; exact Fin_end (by first | (simp [c96]; done) | (simp [c96]; with_reducible rfl))))
  · have h2 : ¬ 0 ≤ fidxF t l 0 := fun h' => hm (h.1 h')
    rw [Bool.not_eq_true] at hm
    rw [hm]
    repeat (first | refine W_assoc ?_ | (show W _ (.seq (.region _ _) _) _ _; refine W_reg (by simp; with_reducible rfl) ?_) | (show R _ _ _ (_ :: _) _ _ _ _; refine R_op (by simp (maxSteps := 2000000) [f1, h2]; with_reducible rfl) ?_) | (show R _ _ _ [] _ _ _ _; refine R_nil (by simp; with_reducible rfl) ?_) | (show W _ (.seq (.cond _ _ _) _) _ _; first | refine W_ct (by first | (simp [f1, h2]; done) | fail) ?_ | refine W_cf (by first | (simp [f1, h2]; done) | fail) ?_) | refine W_skip ?_ | refine W_bl (c := .seq _ _) ?_ | refine W_bl (c := .region _ _) ?_ | refine W_bl (c := .cond _ _ _) ?_ | refine W_bl (c := .block _ _) ?_ | refine W_rt ?_ | refine W_ex ?_ | refine W_end ?_ | refine W_tail (a := .region _ _) ?_ | refine W_tail (a := .cond _ _ _) ?_ | refine W_tail (a := .ret) ?_ | refine W_tail (a := .exit _) ?_ | refine W_tail (a := .block _ _) ?_ | refine QB_normal ?_ | refine QB_exit ?_ | refine QB_ret ?_ | refine QB_out (by decide) ?_ | refine QL_next ?_ | refine QL_exit ?_ | refine QL_ret ?_ | refine QL_out (by decide) ?_ | (show Fin _ _ .ret _; exact Fin_ret (by first | (simp [c96]; done) | (simp [c96]; with_reducible rfl))) | (show Fin _ _ .normal _; exact Fin_end (by first | (simp [c96]; done) | (simp [c96]; with_reducible rfl))))

theorem V_clip (S : List ByteArray) (f : Bool) (hS : S.length ≤ 100000) : FV (F T) 98 [.ro 1 (enc eStr S) f] = some (.ro 1 (enc eStr S) true) := by
  have h : F T 98 [.ro 1 (enc eStr S) f] [] = some (.ro 1 (enc eStr S) true, []) := by
    refine F_W T98 ?_
    simp only [c98, c98_b, Lift.start]
    repeat (first | refine W_assoc ?_ | (show W _ (.seq (.region _ _) _) _ _; refine W_reg (by simp; with_reducible rfl) ?_) | (show R _ _ _ (_ :: _) _ _ _ _; refine R_op (by simp (maxSteps := 2000000); with_reducible rfl) ?_) | (show R _ _ _ [] _ _ _ _; refine R_nil (by simp; with_reducible rfl) ?_) | (show W _ (.seq (.cond _ _ _) _) _ _; first | refine W_ct (by first | (simp; done) | fail) ?_ | refine W_cf (by first | (simp; done) | fail) ?_) | refine W_skip ?_ | refine W_bl (c := .seq _ _) ?_ | refine W_bl (c := .region _ _) ?_ | refine W_bl (c := .cond _ _ _) ?_ | refine W_bl (c := .block _ _) ?_ | refine W_rt ?_ | refine W_ex ?_ | refine W_end ?_ | refine W_tail (a := .region _ _) ?_ | refine W_tail (a := .cond _ _ _) ?_ | refine W_tail (a := .ret) ?_ | refine W_tail (a := .exit _) ?_ | refine W_tail (a := .block _ _) ?_ | refine QB_normal ?_ | refine QB_exit ?_ | refine QB_ret ?_ | refine QB_out (by decide) ?_ | refine QL_next ?_ | refine QL_exit ?_ | refine QL_ret ?_ | refine QL_out (by decide) ?_ | (show Fin _ _ .ret _; exact Fin_ret (by first | (simp [c98]; done) | (simp [c98]; with_reducible rfl))) | (show Fin _ _ .normal _; exact Fin_end (by first | (simp [c98]; done) | (simp [c98]; with_reducible rfl))))
  simpa using FV_of h

theorem V_clone (S : List ByteArray) (f : Bool) (hS : S.length ≤ 100000) : FV (F T) 99 [.ro 1 (enc eStr S) f] = some (.ro 1 (enc eStr S) false) := by
  simpa using FV_of (F_clo S f (by omega))

/-- What becomes of a text that is put. -/
theorem V_Put (p q w l b : Int) (S : List ByteArray) (f : Bool) (t : ByteArray) (hS : S.length ≤ 100000) :
    FV (F T) 52 [.agg [.int .i64 p, .int .i64 q, .ro 1 (enc eStr S) f, .int .i64 w, .int .i64 l], .int .i64 b, .str t] = some (
      if t.size = 0 then .tup [.agg [.int .i64 p, .int .i64 q, .ro 1 (enc eStr S) f, .int .i64 w, .int .i64 l], .bool false, .int .i64 1]
      else if hasT S t = true then .tup [.agg [.int .i64 p, .int .i64 q, .ro 1 (enc eStr S) f, .int .i64 w, .int .i64 l], .bool false, .int .i64 0]
      else if b ≤ S.length then .tup [.agg [.int .i64 p, .int .i64 q, .ro 1 (enc eStr S) f, .int .i64 w, .int .i64 l], .bool false, .int .i64 7]
      else if S = [] then .tup [.agg [.int .i64 p, .int .i64 q, .ro 1 (enc eStr [t]) false, .int .i64 1, .int .i64 1], .bool true, .int .i64 0]
      else .tup [.agg [.int .i64 p, .int .i64 q, .ro 1 (enc eStr (S ++ [t])) false, .int .i64 w, .int .i64 l], .bool false, .int .i64 0]) := by
  have f1 := F_con t S hS
  have f2 := V_clone S f hS
  have f2' := V_clone S false hS
  have f3 := V_clip S false hS
  have hb1 : (S.length + 1) * 16 ≤ 140737488355328 := by omega
  have hb2 : S.length + 1 ≤ 140737488355328 := by omega
  by_cases h1 : t.size = 0
  · rw [if_pos h1]
    have h : F T 52 [.agg [.int .i64 p, .int .i64 q, .ro 1 (enc eStr S) f, .int .i64 w, .int .i64 l], .int .i64 b, .str t] [] = some (.tup [.agg [.int .i64 p, .int .i64 q, .ro 1 (enc eStr S) f, .int .i64 w, .int .i64 l], .bool false, .int .i64 1], []) := by
      refine F_W T52 ?_
      simp only [c52, c52_b, Lift.start]
      repeat (first | refine W_assoc ?_ | (show W _ (.seq (.region _ _) _) _ _; refine W_reg (by simp; with_reducible rfl) ?_) | (show R _ _ _ (_ :: _) _ _ _ _; refine R_op (by simp (maxSteps := 2000000) [h1]; with_reducible rfl) ?_) | (show R _ _ _ [] _ _ _ _; refine R_nil (by simp; with_reducible rfl) ?_) | (show W _ (.seq (.cond _ _ _) _) _ _; first | refine W_ct (by first | (simp [h1]; done) | fail) ?_ | refine W_cf (by first | (simp [h1]; done) | fail) ?_) | refine W_skip ?_ | refine W_bl (c := .seq _ _) ?_ | refine W_bl (c := .region _ _) ?_ | refine W_bl (c := .cond _ _ _) ?_ | refine W_bl (c := .block _ _) ?_ | refine W_rt ?_ | refine W_ex ?_ | refine W_end ?_ | refine W_tail (a := .region _ _) ?_ | refine W_tail (a := .cond _ _ _) ?_ | refine W_tail (a := .ret) ?_ | refine W_tail (a := .exit _) ?_ | refine W_tail (a := .block _ _) ?_ | refine QB_normal ?_ | refine QB_exit ?_ | refine QB_ret ?_ | refine QB_out (by decide) ?_ | refine QL_next ?_ | refine QL_exit ?_ | refine QL_ret ?_ | refine QL_out (by decide) ?_ | (show Fin _ _ .ret _; exact Fin_ret (by first | (simp [c52]; done) | (simp [c52]; with_reducible rfl))) | (show Fin _ _ .normal _; exact Fin_end (by first | (simp [c52]; done) | (simp [c52]; with_reducible rfl))))
    simpa using FV_of h
  rw [if_neg h1]
  by_cases h2 : hasT S t = true
  · rw [if_pos h2]
    rw [h2] at f1
    have h : F T 52 [.agg [.int .i64 p, .int .i64 q, .ro 1 (enc eStr S) f, .int .i64 w, .int .i64 l], .int .i64 b, .str t] [] = some (.tup [.agg [.int .i64 p, .int .i64 q, .ro 1 (enc eStr S) f, .int .i64 w, .int .i64 l], .bool false, .int .i64 0], []) := by
      refine F_W T52 ?_
      simp only [c52, c52_b, Lift.start]
      cases f
      · repeat (first | refine W_assoc ?_ | (show W _ (.seq (.region _ _) _) _ _; refine W_reg (by simp; with_reducible rfl) ?_) | (show R _ _ _ (_ :: _) _ _ _ _; refine R_op (by simp (maxSteps := 2000000) [h1, f1]; with_reducible rfl) ?_) | (show R _ _ _ [] _ _ _ _; refine R_nil (by simp; with_reducible rfl) ?_) | (show W _ (.seq (.cond _ _ _) _) _ _; first | refine W_ct (by first | (simp [h1, f1]; done) | fail) ?_ | refine W_cf (by first | (simp [h1, f1]; done) | fail) ?_) | refine W_skip ?_ | refine W_bl (c := .seq _ _) ?_ | refine W_bl (c := .region _ _) ?_ | refine W_bl (c := .cond _ _ _) ?_ | refine W_bl (c := .block _ _) ?_ | refine W_rt ?_ | refine W_ex ?_ | refine W_end ?_ | refine W_tail (a := .region _ _) ?_ | refine W_tail (a := .cond _ _ _) ?_ | refine W_tail (a := .ret) ?_ | refine W_tail (a := .exit _) ?_ | refine W_tail (a := .block _ _) ?_ | refine QB_normal ?_ | refine QB_exit ?_ | refine QB_ret ?_ | refine QB_out (by decide) ?_ | refine QL_next ?_ | refine QL_exit ?_ | refine QL_ret ?_ | refine QL_out (by decide) ?_ | (show Fin _ _ .ret _; exact Fin_ret (by first | (simp [c52]; done) | (simp [c52]; with_reducible rfl))) | (show Fin _ _ .normal _; exact Fin_end (by first | (simp [c52]; done) | (simp [c52]; with_reducible rfl))))
      · repeat (first | refine W_assoc ?_ | (show W _ (.seq (.region _ _) _) _ _; refine W_reg (by simp; with_reducible rfl) ?_) | (show R _ _ _ (_ :: _) _ _ _ _; refine R_op (by simp (maxSteps := 2000000) [h1, f1]; with_reducible rfl) ?_) | (show R _ _ _ [] _ _ _ _; refine R_nil (by simp; with_reducible rfl) ?_) | (show W _ (.seq (.cond _ _ _) _) _ _; first | refine W_ct (by first | (simp [h1, f1]; done) | fail) ?_ | refine W_cf (by first | (simp [h1, f1]; done) | fail) ?_) | refine W_skip ?_ | refine W_bl (c := .seq _ _) ?_ | refine W_bl (c := .region _ _) ?_ | refine W_bl (c := .cond _ _ _) ?_ | refine W_bl (c := .block _ _) ?_ | refine W_rt ?_ | refine W_ex ?_ | refine W_end ?_ | refine W_tail (a := .region _ _) ?_ | refine W_tail (a := .cond _ _ _) ?_ | refine W_tail (a := .ret) ?_ | refine W_tail (a := .exit _) ?_ | refine W_tail (a := .block _ _) ?_ | refine QB_normal ?_ | refine QB_exit ?_ | refine QB_ret ?_ | refine QB_out (by decide) ?_ | refine QL_next ?_ | refine QL_exit ?_ | refine QL_ret ?_ | refine QL_out (by decide) ?_ | (show Fin _ _ .ret _; exact Fin_ret (by first | (simp [c52]; done) | (simp [c52]; with_reducible rfl))) | (show Fin _ _ .normal _; exact Fin_end (by first | (simp [c52]; done) | (simp [c52]; with_reducible rfl))))
    simpa using FV_of h
  rw [if_neg h2]
  rw [Bool.eq_false_iff.2 h2] at f1
  by_cases h3 : b ≤ S.length
  · rw [if_pos h3]
    have h : F T 52 [.agg [.int .i64 p, .int .i64 q, .ro 1 (enc eStr S) f, .int .i64 w, .int .i64 l], .int .i64 b, .str t] [] = some (.tup [.agg [.int .i64 p, .int .i64 q, .ro 1 (enc eStr S) f, .int .i64 w, .int .i64 l], .bool false, .int .i64 7], []) := by
      refine F_W T52 ?_
      simp only [c52, c52_b, Lift.start]
      cases f
      · repeat (first | refine W_assoc ?_ | (show W _ (.seq (.region _ _) _) _ _; refine W_reg (by simp; with_reducible rfl) ?_) | (show R _ _ _ (_ :: _) _ _ _ _; refine R_op (by simp (maxSteps := 2000000) [h1, f1, h3]; with_reducible rfl) ?_) | (show R _ _ _ [] _ _ _ _; refine R_nil (by simp; with_reducible rfl) ?_) | (show W _ (.seq (.cond _ _ _) _) _ _; first | refine W_ct (by first | (simp [h1, f1, h3]; done) | fail) ?_ | refine W_cf (by first | (simp [h1, f1, h3]; done) | fail) ?_) | refine W_skip ?_ | refine W_bl (c := .seq _ _) ?_ | refine W_bl (c := .region _ _) ?_ | refine W_bl (c := .cond _ _ _) ?_ | refine W_bl (c := .block _ _) ?_ | refine W_rt ?_ | refine W_ex ?_ | refine W_end ?_ | refine W_tail (a := .region _ _) ?_ | refine W_tail (a := .cond _ _ _) ?_ | refine W_tail (a := .ret) ?_ | refine W_tail (a := .exit _) ?_ | refine W_tail (a := .block _ _) ?_ | refine QB_normal ?_ | refine QB_exit ?_ | refine QB_ret ?_ | refine QB_out (by decide) ?_ | refine QL_next ?_ | refine QL_exit ?_ | refine QL_ret ?_ | refine QL_out (by decide) ?_ | (show Fin _ _ .ret _; exact Fin_ret (by first | (simp [c52]; done) | (simp [c52]; with_reducible rfl))) | (show Fin _ _ .normal _; exact Fin_end (by first | (simp [c52]; done) | (simp [c52]; with_reducible rfl))))
      · repeat (first | refine W_assoc ?_ | (show W _ (.seq (.region _ _) _) _ _; refine W_reg (by simp; with_reducible rfl) ?_) | (show R _ _ _ (_ :: _) _ _ _ _; refine R_op (by simp (maxSteps := 2000000) [h1, f1, h3]; with_reducible rfl) ?_) | (show R _ _ _ [] _ _ _ _; refine R_nil (by simp; with_reducible rfl) ?_) | (show W _ (.seq (.cond _ _ _) _) _ _; first | refine W_ct (by first | (simp [h1, f1, h3]; done) | fail) ?_ | refine W_cf (by first | (simp [h1, f1, h3]; done) | fail) ?_) | refine W_skip ?_ | refine W_bl (c := .seq _ _) ?_ | refine W_bl (c := .region _ _) ?_ | refine W_bl (c := .cond _ _ _) ?_ | refine W_bl (c := .block _ _) ?_ | refine W_rt ?_ | refine W_ex ?_ | refine W_end ?_ | refine W_tail (a := .region _ _) ?_ | refine W_tail (a := .cond _ _ _) ?_ | refine W_tail (a := .ret) ?_ | refine W_tail (a := .exit _) ?_ | refine W_tail (a := .block _ _) ?_ | refine QB_normal ?_ | refine QB_exit ?_ | refine QB_ret ?_ | refine QB_out (by decide) ?_ | refine QL_next ?_ | refine QL_exit ?_ | refine QL_ret ?_ | refine QL_out (by decide) ?_ | (show Fin _ _ .ret _; exact Fin_ret (by first | (simp [c52]; done) | (simp [c52]; with_reducible rfl))) | (show Fin _ _ .normal _; exact Fin_end (by first | (simp [c52]; done) | (simp [c52]; with_reducible rfl))))
    simpa using FV_of h
  rw [if_neg h3]
  by_cases h4 : S = []
  · rw [if_pos h4]
    subst h4
    simp only [enc_nil] at f1 f2 f2' f3
    have h3' : ¬ b ≤ 0 := by simpa using h3
    have h : F T 52 [.agg [.int .i64 p, .int .i64 q, .ro 1 (enc eStr []) f, .int .i64 w, .int .i64 l], .int .i64 b, .str t] [] = some (.tup [.agg [.int .i64 p, .int .i64 q, .own 0 0 1, .int .i64 1, .int .i64 1], .bool true, .int .i64 0], [⟨9, 1, false, enc eStr [t], 0⟩]) := by
      refine F_W T52 ?_
      simp only [c52, c52_b, Lift.start]
      cases f
      · repeat (first | refine W_assoc ?_ | (show W _ (.seq (.region _ _) _) _ _; refine W_reg (by simp; with_reducible rfl) ?_) | (show R _ _ _ (_ :: _) _ _ _ _; refine R_op (by simp (maxSteps := 2000000) [h1, f1, h3', f2, f2', f3, V_start]; with_reducible rfl) ?_) | (show R _ _ _ [] _ _ _ _; refine R_nil (by simp; with_reducible rfl) ?_) | (show W _ (.seq (.cond _ _ _) _) _ _; first | refine W_ct (by first | (simp [h1, f1, h3', f2, f2', f3, V_start]; done) | fail) ?_ | refine W_cf (by first | (simp [h1, f1, h3', f2, f2', f3, V_start]; done) | fail) ?_) | refine W_skip ?_ | refine W_bl (c := .seq _ _) ?_ | refine W_bl (c := .region _ _) ?_ | refine W_bl (c := .cond _ _ _) ?_ | refine W_bl (c := .block _ _) ?_ | refine W_rt ?_ | refine W_ex ?_ | refine W_end ?_ | refine W_tail (a := .region _ _) ?_ | refine W_tail (a := .cond _ _ _) ?_ | refine W_tail (a := .ret) ?_ | refine W_tail (a := .exit _) ?_ | refine W_tail (a := .block _ _) ?_ | refine QB_normal ?_ | refine QB_exit ?_ | refine QB_ret ?_ | refine QB_out (by decide) ?_ | refine QL_next ?_ | refine QL_exit ?_ | refine QL_ret ?_ | refine QL_out (by decide) ?_ | (show Fin _ _ .ret _; exact Fin_ret (by first | (simp [c52]; done) | (simp [c52]; with_reducible rfl))) | (show Fin _ _ .normal _; exact Fin_end (by first | (simp [c52]; done) | (simp [c52]; with_reducible rfl))))
      · repeat (first | refine W_assoc ?_ | (show W _ (.seq (.region _ _) _) _ _; refine W_reg (by simp; with_reducible rfl) ?_) | (show R _ _ _ (_ :: _) _ _ _ _; refine R_op (by simp (maxSteps := 2000000) [h1, f1, h3', f2, f2', f3, V_start]; with_reducible rfl) ?_) | (show R _ _ _ [] _ _ _ _; refine R_nil (by simp; with_reducible rfl) ?_) | (show W _ (.seq (.cond _ _ _) _) _ _; first | refine W_ct (by first | (simp [h1, f1, h3', f2, f2', f3, V_start]; done) | fail) ?_ | refine W_cf (by first | (simp [h1, f1, h3', f2, f2', f3, V_start]; done) | fail) ?_) | refine W_skip ?_ | refine W_bl (c := .seq _ _) ?_ | refine W_bl (c := .region _ _) ?_ | refine W_bl (c := .cond _ _ _) ?_ | refine W_bl (c := .block _ _) ?_ | refine W_rt ?_ | refine W_ex ?_ | refine W_end ?_ | refine W_tail (a := .region _ _) ?_ | refine W_tail (a := .cond _ _ _) ?_ | refine W_tail (a := .ret) ?_ | refine W_tail (a := .exit _) ?_ | refine W_tail (a := .block _ _) ?_ | refine QB_normal ?_ | refine QB_exit ?_ | refine QB_ret ?_ | refine QB_out (by decide) ?_ | refine QL_next ?_ | refine QL_exit ?_ | refine QL_ret ?_ | refine QL_out (by decide) ?_ | (show Fin _ _ .ret _; exact Fin_ret (by first | (simp [c52]; done) | (simp [c52]; with_reducible rfl))) | (show Fin _ _ .normal _; exact Fin_end (by first | (simp [c52]; done) | (simp [c52]; with_reducible rfl))))
    simpa using FV_of h
  · rw [if_neg h4]
    have h5 : 0 < S.length := List.length_pos_iff.2 h4
    have h6 : (1 : Int) < S.length + 1 := by omega
    have h : F T 52 [.agg [.int .i64 p, .int .i64 q, .ro 1 (enc eStr S) f, .int .i64 w, .int .i64 l], .int .i64 b, .str t] [] = some (.tup [.agg [.int .i64 p, .int .i64 q, .own 0 0 (S.length + 1), .int .i64 w, .int .i64 l], .bool false, .int .i64 0], [⟨9, 1, false, enc eStr (S ++ [t]), 0⟩]) := by
      refine F_W T52 ?_
      simp only [c52, c52_b, Lift.start]
      cases f
      · repeat (first | refine W_assoc ?_ | (show W _ (.seq (.region _ _) _) _ _; refine W_reg (by simp; with_reducible rfl) ?_) | (show R _ _ _ (_ :: _) _ _ _ _; refine R_op (by simp (maxSteps := 2000000) [h1, f1, h3, f2, f2', f3, h4, hb1, hb2, h5, h6]; with_reducible rfl) ?_) | (show R _ _ _ [] _ _ _ _; refine R_nil (by simp; with_reducible rfl) ?_) | (show W _ (.seq (.cond _ _ _) _) _ _; first | refine W_ct (by first | (simp [h1, f1, h3, f2, f2', f3, h4, hb1, hb2, h5, h6]; done) | fail) ?_ | refine W_cf (by first | (simp [h1, f1, h3, f2, f2', f3, h4, hb1, hb2, h5, h6]; done) | fail) ?_) | refine W_skip ?_ | refine W_bl (c := .seq _ _) ?_ | refine W_bl (c := .region _ _) ?_ | refine W_bl (c := .cond _ _ _) ?_ | refine W_bl (c := .block _ _) ?_ | refine W_rt ?_ | refine W_ex ?_ | refine W_end ?_ | refine W_tail (a := .region _ _) ?_ | refine W_tail (a := .cond _ _ _) ?_ | refine W_tail (a := .ret) ?_ | refine W_tail (a := .exit _) ?_ | refine W_tail (a := .block _ _) ?_ | refine QB_normal ?_ | refine QB_exit ?_ | refine QB_ret ?_ | refine QB_out (by decide) ?_ | refine QL_next ?_ | refine QL_exit ?_ | refine QL_ret ?_ | refine QL_out (by decide) ?_ | (show Fin _ _ .ret _; exact Fin_ret (by first | (simp [c52]; done) | (simp [c52]; with_reducible rfl))) | (show Fin _ _ .normal _; exact Fin_end (by first | (simp [c52]; done) | (simp [c52]; with_reducible rfl))))
      · repeat (first | refine W_assoc ?_ | (show W _ (.seq (.region _ _) _) _ _; refine W_reg (by simp; with_reducible rfl) ?_) | (show R _ _ _ (_ :: _) _ _ _ _; refine R_op (by simp (maxSteps := 2000000) [h1, f1, h3, f2, f2', f3, h4, hb1, hb2, h5, h6]; with_reducible rfl) ?_) | (show R _ _ _ [] _ _ _ _; refine R_nil (by simp; with_reducible rfl) ?_) | (show W _ (.seq (.cond _ _ _) _) _ _; first | refine W_ct (by first | (simp [h1, f1, h3, f2, f2', f3, h4, hb1, hb2, h5, h6]; done) | fail) ?_ | refine W_cf (by first | (simp [h1, f1, h3, f2, f2', f3, h4, hb1, hb2, h5, h6]; done) | fail) ?_) | refine W_skip ?_ | refine W_bl (c := .seq _ _) ?_ | refine W_bl (c := .region _ _) ?_ | refine W_bl (c := .cond _ _ _) ?_ | refine W_bl (c := .block _ _) ?_ | refine W_rt ?_ | refine W_ex ?_ | refine W_end ?_ | refine W_tail (a := .region _ _) ?_ | refine W_tail (a := .cond _ _ _) ?_ | refine W_tail (a := .ret) ?_ | refine W_tail (a := .exit _) ?_ | refine W_tail (a := .block _ _) ?_ | refine QB_normal ?_ | refine QB_exit ?_ | refine QB_ret ?_ | refine QB_out (by decide) ?_ | refine QL_next ?_ | refine QL_exit ?_ | refine QL_ret ?_ | refine QL_out (by decide) ?_ | (show Fin _ _ .ret _; exact Fin_ret (by first | (simp [c52]; done) | (simp [c52]; with_reducible rfl))) | (show Fin _ _ .normal _; exact Fin_end (by first | (simp [c52]; done) | (simp [c52]; with_reducible rfl))))
    simpa using FV_of h

theorem V_sends (p q w l : Int) (S : List ByteArray) (f : Bool) (hS : S.length ≤ 100000) :
    FV (F T) 111 [.agg [.int .i64 p, .int .i64 q, .ro 1 (enc eStr S) f, .int .i64 w, .int .i64 l]] = some (
      if S = [] then .tup [.agg [.int .i64 p, .int .i64 q, .ro 1 (enc eStr S) f, .int .i64 w, .int .i64 l], .bool false]
      else .tup [.agg [.int .i64 p, .int .i64 q, .ro 1 (enc eStr S) f, .int .i64 1, .int .i64 1], .bool true]) := by
  by_cases h4 : S = []
  · rw [if_pos h4]
    subst h4
    have h : F T 111 [.agg [.int .i64 p, .int .i64 q, .ro 1 (enc eStr []) f, .int .i64 w, .int .i64 l]] [] = some (.tup [.agg [.int .i64 p, .int .i64 q, .ro 1 (enc eStr []) f, .int .i64 w, .int .i64 l], .bool false], []) := by
      refine F_W T111 ?_
      simp only [c111, c111_b, Lift.start]
      repeat (first | refine W_assoc ?_ | (show W _ (.seq (.region _ _) _) _ _; refine W_reg (by simp; with_reducible rfl) ?_) | (show R _ _ _ (_ :: _) _ _ _ _; refine R_op (by simp (maxSteps := 2000000); with_reducible rfl) ?_) | (show R _ _ _ [] _ _ _ _; refine R_nil (by simp; with_reducible rfl) ?_) | (show W _ (.seq (.cond _ _ _) _) _ _; first | refine W_ct (by first | (simp; done) | fail) ?_ | refine W_cf (by first | (simp; done) | fail) ?_) | refine W_skip ?_ | refine W_bl (c := .seq _ _) ?_ | refine W_bl (c := .region _ _) ?_ | refine W_bl (c := .cond _ _ _) ?_ | refine W_bl (c := .block _ _) ?_ | refine W_rt ?_ | refine W_ex ?_ | refine W_end ?_ | refine W_tail (a := .region _ _) ?_ | refine W_tail (a := .cond _ _ _) ?_ | refine W_tail (a := .ret) ?_ | refine W_tail (a := .exit _) ?_ | refine W_tail (a := .block _ _) ?_ | refine QB_normal ?_ | refine QB_exit ?_ | refine QB_ret ?_ | refine QB_out (by decide) ?_ | refine QL_next ?_ | refine QL_exit ?_ | refine QL_ret ?_ | refine QL_out (by decide) ?_ | (show Fin _ _ .ret _; exact Fin_ret (by first | (simp [c111]; done) | (simp [c111]; with_reducible rfl))) | (show Fin _ _ .normal _; exact Fin_end (by first | (simp [c111]; done) | (simp [c111]; with_reducible rfl))))
    simpa using FV_of h
  · rw [if_neg h4]
    have h : F T 111 [.agg [.int .i64 p, .int .i64 q, .ro 1 (enc eStr S) f, .int .i64 w, .int .i64 l]] [] = some (.tup [.agg [.int .i64 p, .int .i64 q, .ro 1 (enc eStr S) f, .int .i64 1, .int .i64 1], .bool true], []) := by
      refine F_W T111 ?_
      simp only [c111, c111_b, Lift.start]
      repeat (first | refine W_assoc ?_ | (show W _ (.seq (.region _ _) _) _ _; refine W_reg (by simp; with_reducible rfl) ?_) | (show R _ _ _ (_ :: _) _ _ _ _; refine R_op (by simp (maxSteps := 2000000) [h4, V_start]; with_reducible rfl) ?_) | (show R _ _ _ [] _ _ _ _; refine R_nil (by simp; with_reducible rfl) ?_) | (show W _ (.seq (.cond _ _ _) _) _ _; first | refine W_ct (by first | (simp [h4, V_start]; done) | fail) ?_ | refine W_cf (by first | (simp [h4, V_start]; done) | fail) ?_) | refine W_skip ?_ | refine W_bl (c := .seq _ _) ?_ | refine W_bl (c := .region _ _) ?_ | refine W_bl (c := .cond _ _ _) ?_ | refine W_bl (c := .block _ _) ?_ | refine W_rt ?_ | refine W_ex ?_ | refine W_end ?_ | refine W_tail (a := .region _ _) ?_ | refine W_tail (a := .cond _ _ _) ?_ | refine W_tail (a := .ret) ?_ | refine W_tail (a := .exit _) ?_ | refine W_tail (a := .block _ _) ?_ | refine QB_normal ?_ | refine QB_exit ?_ | refine QB_ret ?_ | refine QB_out (by decide) ?_ | refine QL_next ?_ | refine QL_exit ?_ | refine QL_ret ?_ | refine QL_out (by decide) ?_ | (show Fin _ _ .ret _; exact Fin_ret (by first | (simp [c111]; done) | (simp [c111]; with_reducible rfl))) | (show Fin _ _ .normal _; exact Fin_end (by first | (simp [c111]; done) | (simp [c111]; with_reducible rfl))))
    simpa using FV_of h

/-- What becomes of an answer. -/
theorem V_Acked (p q w l a b : Int) (S : List ByteArray) (f : Bool) (hS : S.length ≤ 100000) :
    FV (F T) 58 [.agg [.int .i64 p, .int .i64 q, .ro 1 (enc eStr S) f, .int .i64 w, .int .i64 l], .int .i64 a, .int .i64 b] = some (
      if S = [] ∨ a ≠ p ∨ b ≠ q then .tup [.agg [.int .i64 p, .int .i64 q, .ro 1 (enc eStr S) f, .int .i64 w, .int .i64 l], .bool false]
      else if S.tail = [] then .tup [.agg [.int .i64 p, .int .i64 (IntKind.i64.wrap (q + 1)), .ro 1 [] false, .int .i64 1, .int .i64 0], .bool false]
      else .tup [.agg [.int .i64 p, .int .i64 (IntKind.i64.wrap (q + 1)), .ro 1 (enc eStr S.tail) false, .int .i64 1, .int .i64 1], .bool true]) := by
  by_cases h1 : S = [] ∨ a ≠ p ∨ b ≠ q
  · rw [if_pos h1]
    have h : F T 58 [.agg [.int .i64 p, .int .i64 q, .ro 1 (enc eStr S) f, .int .i64 w, .int .i64 l], .int .i64 a, .int .i64 b] [] = some (.tup [.agg [.int .i64 p, .int .i64 q, .ro 1 (enc eStr S) f, .int .i64 w, .int .i64 l], .bool false], []) := by
      refine F_W T58 ?_
      simp only [c58, c58_b, Lift.start]
      by_cases h2 : S = []
      · subst h2
        repeat (first | refine W_assoc ?_ | (show W _ (.seq (.region _ _) _) _ _; refine W_reg (by simp; with_reducible rfl) ?_) | (show R _ _ _ (_ :: _) _ _ _ _; refine R_op (by simp (maxSteps := 2000000); with_reducible rfl) ?_) | (show R _ _ _ [] _ _ _ _; refine R_nil (by simp; with_reducible rfl) ?_) | (show W _ (.seq (.cond _ _ _) _) _ _; first | refine W_ct (by first | (simp; done) | fail) ?_ | refine W_cf (by first | (simp; done) | fail) ?_) | refine W_skip ?_ | refine W_bl (c := .seq _ _) ?_ | refine W_bl (c := .region _ _) ?_ | refine W_bl (c := .cond _ _ _) ?_ | refine W_bl (c := .block _ _) ?_ | refine W_rt ?_ | refine W_ex ?_ | refine W_end ?_ | refine W_tail (a := .region _ _) ?_ | refine W_tail (a := .cond _ _ _) ?_ | refine W_tail (a := .ret) ?_ | refine W_tail (a := .exit _) ?_ | refine W_tail (a := .block _ _) ?_ | refine QB_normal ?_ | refine QB_exit ?_ | refine QB_ret ?_ | refine QB_out (by decide) ?_ | refine QL_next ?_ | refine QL_exit ?_ | refine QL_ret ?_ | refine QL_out (by decide) ?_ | (show Fin _ _ .ret _; exact Fin_ret (by first | (simp [c58]; done) | (simp [c58]; with_reducible rfl))) | (show Fin _ _ .normal _; exact Fin_end (by first | (simp [c58]; done) | (simp [c58]; with_reducible rfl))))
      · by_cases h3 : a = p
        · have h4 : ¬ b = q := by
            rcases h1 with h | h | h
            · exact absurd h h2
            · exact absurd h3 h
            · exact h
          repeat (first | refine W_assoc ?_ | (show W _ (.seq (.region _ _) _) _ _; refine W_reg (by simp; with_reducible rfl) ?_) | (show R _ _ _ (_ :: _) _ _ _ _; refine R_op (by simp (maxSteps := 2000000) [h2, h3, h4]; with_reducible rfl) ?_) | (show R _ _ _ [] _ _ _ _; refine R_nil (by simp; with_reducible rfl) ?_) | (show W _ (.seq (.cond _ _ _) _) _ _; first | refine W_ct (by first | (simp [h2, h3, h4]; done) | fail) ?_ | refine W_cf (by first | (simp [h2, h3, h4]; done) | fail) ?_) | refine W_skip ?_ | refine W_bl (c := .seq _ _) ?_ | refine W_bl (c := .region _ _) ?_ | refine W_bl (c := .cond _ _ _) ?_ | refine W_bl (c := .block _ _) ?_ | refine W_rt ?_ | refine W_ex ?_ | refine W_end ?_ | refine W_tail (a := .region _ _) ?_ | refine W_tail (a := .cond _ _ _) ?_ | refine W_tail (a := .ret) ?_ | refine W_tail (a := .exit _) ?_ | refine W_tail (a := .block _ _) ?_ | refine QB_normal ?_ | refine QB_exit ?_ | refine QB_ret ?_ | refine QB_out (by decide) ?_ | refine QL_next ?_ | refine QL_exit ?_ | refine QL_ret ?_ | refine QL_out (by decide) ?_ | (show Fin _ _ .ret _; exact Fin_ret (by first | (simp [c58]; done) | (simp [c58]; with_reducible rfl))) | (show Fin _ _ .normal _; exact Fin_end (by first | (simp [c58]; done) | (simp [c58]; with_reducible rfl))))
        · repeat (first | refine W_assoc ?_ | (show W _ (.seq (.region _ _) _) _ _; refine W_reg (by simp; with_reducible rfl) ?_) | (show R _ _ _ (_ :: _) _ _ _ _; refine R_op (by simp (maxSteps := 2000000) [h2, h3]; with_reducible rfl) ?_) | (show R _ _ _ [] _ _ _ _; refine R_nil (by simp; with_reducible rfl) ?_) | (show W _ (.seq (.cond _ _ _) _) _ _; first | refine W_ct (by first | (simp [h2, h3]; done) | fail) ?_ | refine W_cf (by first | (simp [h2, h3]; done) | fail) ?_) | refine W_skip ?_ | refine W_bl (c := .seq _ _) ?_ | refine W_bl (c := .region _ _) ?_ | refine W_bl (c := .cond _ _ _) ?_ | refine W_bl (c := .block _ _) ?_ | refine W_rt ?_ | refine W_ex ?_ | refine W_end ?_ | refine W_tail (a := .region _ _) ?_ | refine W_tail (a := .cond _ _ _) ?_ | refine W_tail (a := .ret) ?_ | refine W_tail (a := .exit _) ?_ | refine W_tail (a := .block _ _) ?_ | refine QB_normal ?_ | refine QB_exit ?_ | refine QB_ret ?_ | refine QB_out (by decide) ?_ | refine QL_next ?_ | refine QL_exit ?_ | refine QL_ret ?_ | refine QL_out (by decide) ?_ | (show Fin _ _ .ret _; exact Fin_ret (by first | (simp [c58]; done) | (simp [c58]; with_reducible rfl))) | (show Fin _ _ .normal _; exact Fin_end (by first | (simp [c58]; done) | (simp [c58]; with_reducible rfl))))
    simpa using FV_of h
  · rw [if_neg h1]
    have h2 : ¬ S = [] := fun e => h1 (.inl e)
    have h3 : a = p := Decidable.byContradiction fun e => h1 (.inr (.inl e))
    have h4 : b = q := Decidable.byContradiction fun e => h1 (.inr (.inr e))
    obtain ⟨s, S, rfl⟩ := List.exists_cons_of_ne_nil h2
    simp only [List.length_cons] at hS
    have f2 := V_clone S f (by omega)
    have f2' := V_clone S false (by omega)
    have h5 : (1 : Int) ≤ S.length + 1 := by omega
    subst h3 h4
    by_cases h6 : S = []
    · subst h6
      have f3 := V_sends a (IntKind.i64.wrap (b + 1)) 1 0 [] false (by simp)
      simp only [enc_nil, if_true] at f2 f2' f3
      rw [if_pos (by rfl)]
      have h : F T 58 [.agg [.int .i64 a, .int .i64 b, .ro 1 (enc eStr [s]) f, .int .i64 w, .int .i64 l], .int .i64 a, .int .i64 b] [] = some (.tup [.agg [.int .i64 a, .int .i64 (IntKind.i64.wrap (b + 1)), .ro 1 [] false, .int .i64 1, .int .i64 0], .bool false], []) := by
        refine F_W T58 ?_
        simp only [c58, c58_b, Lift.start]
        cases f
        · repeat (first | refine W_assoc ?_ | (show W _ (.seq (.region _ _) _) _ _; refine W_reg (by simp; with_reducible rfl) ?_) | (show R _ _ _ (_ :: _) _ _ _ _; refine R_op (by simp (maxSteps := 2000000) [f2, f2', f3, V_stop]; with_reducible rfl) ?_) | (show R _ _ _ [] _ _ _ _; refine R_nil (by simp; with_reducible rfl) ?_) | (show W _ (.seq (.cond _ _ _) _) _ _; first | refine W_ct (by first | (simp [f2, f2', f3, V_stop]; done) | fail) ?_ | refine W_cf (by first | (simp [f2, f2', f3, V_stop]; done) | fail) ?_) | refine W_skip ?_ | refine W_bl (c := .seq _ _) ?_ | refine W_bl (c := .region _ _) ?_ | refine W_bl (c := .cond _ _ _) ?_ | refine W_bl (c := .block _ _) ?_ | refine W_rt ?_ | refine W_ex ?_ | refine W_end ?_ | refine W_tail (a := .region _ _) ?_ | refine W_tail (a := .cond _ _ _) ?_ | refine W_tail (a := .ret) ?_ | refine W_tail (a := .exit _) ?_ | refine W_tail (a := .block _ _) ?_ | refine QB_normal ?_ | refine QB_exit ?_ | refine QB_ret ?_ | refine QB_out (by decide) ?_ | refine QL_next ?_ | refine QL_exit ?_ | refine QL_ret ?_ | refine QL_out (by decide) ?_ | (show Fin _ _ .ret _; exact Fin_ret (by first | (simp [c58]; done) | (simp [c58]; with_reducible rfl))) | (show Fin _ _ .normal _; exact Fin_end (by first | (simp [c58]; done) | (simp [c58]; with_reducible rfl))))
        · repeat (first | refine W_assoc ?_ | (show W _ (.seq (.region _ _) _) _ _; refine W_reg (by simp; with_reducible rfl) ?_) | (show R _ _ _ (_ :: _) _ _ _ _; refine R_op (by simp (maxSteps := 2000000) [f2, f2', f3, V_stop]; with_reducible rfl) ?_) | (show R _ _ _ [] _ _ _ _; refine R_nil (by simp; with_reducible rfl) ?_) | (show W _ (.seq (.cond _ _ _) _) _ _; first | refine W_ct (by first | (simp [f2, f2', f3, V_stop]; done) | fail) ?_ | refine W_cf (by first | (simp [f2, f2', f3, V_stop]; done) | fail) ?_) | refine W_skip ?_ | refine W_bl (c := .seq _ _) ?_ | refine W_bl (c := .region _ _) ?_ | refine W_bl (c := .cond _ _ _) ?_ | refine W_bl (c := .block _ _) ?_ | refine W_rt ?_ | refine W_ex ?_ | refine W_end ?_ | refine W_tail (a := .region _ _) ?_ | refine W_tail (a := .cond _ _ _) ?_ | refine W_tail (a := .ret) ?_ | refine W_tail (a := .exit _) ?_ | refine W_tail (a := .block _ _) ?_ | refine QB_normal ?_ | refine QB_exit ?_ | refine QB_ret ?_ | refine QB_out (by decide) ?_ | refine QL_next ?_ | refine QL_exit ?_ | refine QL_ret ?_ | refine QL_out (by decide) ?_ | (show Fin _ _ .ret _; exact Fin_ret (by first | (simp [c58]; done) | (simp [c58]; with_reducible rfl))) | (show Fin _ _ .normal _; exact Fin_end (by first | (simp [c58]; done) | (simp [c58]; with_reducible rfl))))
      simpa using FV_of h
    · have f3 := V_sends a (IntKind.i64.wrap (b + 1)) 1 0 S false (by omega)
      rw [if_neg h6] at f3
      rw [if_neg (by simpa using h6), List.tail_cons]
      have h : F T 58 [.agg [.int .i64 a, .int .i64 b, .ro 1 (enc eStr (s :: S)) f, .int .i64 w, .int .i64 l], .int .i64 a, .int .i64 b] [] = some (.tup [.agg [.int .i64 a, .int .i64 (IntKind.i64.wrap (b + 1)), .ro 1 (enc eStr S) false, .int .i64 1, .int .i64 1], .bool true], []) := by
        refine F_W T58 ?_
        simp only [c58, c58_b, Lift.start]
        cases f
        · repeat (first | refine W_assoc ?_ | (show W _ (.seq (.region _ _) _) _ _; refine W_reg (by simp; with_reducible rfl) ?_) | (show R _ _ _ (_ :: _) _ _ _ _; refine R_op (by simp (maxSteps := 2000000) [f2, f2', f3, V_stop, h5]; with_reducible rfl) ?_) | (show R _ _ _ [] _ _ _ _; refine R_nil (by simp; with_reducible rfl) ?_) | (show W _ (.seq (.cond _ _ _) _) _ _; first | refine W_ct (by first | (simp [f2, f2', f3, V_stop, h5]; done) | fail) ?_ | refine W_cf (by first | (simp [f2, f2', f3, V_stop, h5]; done) | fail) ?_) | refine W_skip ?_ | refine W_bl (c := .seq _ _) ?_ | refine W_bl (c := .region _ _) ?_ | refine W_bl (c := .cond _ _ _) ?_ | refine W_bl (c := .block _ _) ?_ | refine W_rt ?_ | refine W_ex ?_ | refine W_end ?_ | refine W_tail (a := .region _ _) ?_ | refine W_tail (a := .cond _ _ _) ?_ | refine W_tail (a := .ret) ?_ | refine W_tail (a := .exit _) ?_ | refine W_tail (a := .block _ _) ?_ | refine QB_normal ?_ | refine QB_exit ?_ | refine QB_ret ?_ | refine QB_out (by decide) ?_ | refine QL_next ?_ | refine QL_exit ?_ | refine QL_ret ?_ | refine QL_out (by decide) ?_ | (show Fin _ _ .ret _; exact Fin_ret (by first | (simp [c58]; done) | (simp [c58]; with_reducible rfl))) | (show Fin _ _ .normal _; exact Fin_end (by first | (simp [c58]; done) | (simp [c58]; with_reducible rfl))))
        · repeat (first | refine W_assoc ?_ | (show W _ (.seq (.region _ _) _) _ _; refine W_reg (by simp; with_reducible rfl) ?_) | (show R _ _ _ (_ :: _) _ _ _ _; refine R_op (by simp (maxSteps := 2000000) [f2, f2', f3, V_stop, h5]; with_reducible rfl) ?_) | (show R _ _ _ [] _ _ _ _; refine R_nil (by simp; with_reducible rfl) ?_) | (show W _ (.seq (.cond _ _ _) _) _ _; first | refine W_ct (by first | (simp [f2, f2', f3, V_stop, h5]; done) | fail) ?_ | refine W_cf (by first | (simp [f2, f2', f3, V_stop, h5]; done) | fail) ?_) | refine W_skip ?_ | refine W_bl (c := .seq _ _) ?_ | refine W_bl (c := .region _ _) ?_ | refine W_bl (c := .cond _ _ _) ?_ | refine W_bl (c := .block _ _) ?_ | refine W_rt ?_ | refine W_ex ?_ | refine W_end ?_ | refine W_tail (a := .region _ _) ?_ | refine W_tail (a := .cond _ _ _) ?_ | refine W_tail (a := .ret) ?_ | refine W_tail (a := .exit _) ?_ | refine W_tail (a := .block _ _) ?_ | refine QB_normal ?_ | refine QB_exit ?_ | refine QB_ret ?_ | refine QB_out (by decide) ?_ | refine QL_next ?_ | refine QL_exit ?_ | refine QL_ret ?_ | refine QL_out (by decide) ?_ | (show Fin _ _ .ret _; exact Fin_ret (by first | (simp [c58]; done) | (simp [c58]; with_reducible rfl))) | (show Fin _ _ .normal _; exact Fin_end (by first | (simp [c58]; done) | (simp [c58]; with_reducible rfl))))
      simpa using FV_of h

end Go.Proofs.Ytjpccbjgmogclaa.Sent
