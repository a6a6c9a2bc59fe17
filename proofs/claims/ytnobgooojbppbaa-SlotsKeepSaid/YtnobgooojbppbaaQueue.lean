/- The queue of a worker's reservations: what the program's and the document's functions come to. -/
import Derived.Test.YtnobgooojbppbaaTS
import Derived.Test.YtnobgooojbppbaaBase
set_option linter.all false
set_option linter.unusedSimpArgs false
set_option maxRecDepth 100000
set_option maxHeartbeats 1000000
namespace Go.Proofs.Ytnobgooojbppbaa.Queue
open Go Go.RowKit Go.Proofs.Ytnobgooojbppbaa.Lift Go.Proofs.Ytnobgooojbppbaa.TS Go.Proofs.Ytnobgooojbppbaa.Base

theorem F_of1 (a b j : Int) : F T 127 [.agg [.int .i64 a, .int .i64 b], .rref [.int .i64 j]] [] = some (.bool (decide (a = j)), []) := by
  refine F_W T127 ?_
  exact W_fin (ex := .ret) (by simp (maxSteps := 2000000) [c127, c127_b]; with_reducible rfl) (by simp) (by first | (simp [c127]; done) | (simp [c127]; with_reducible rfl))

theorem V_of (j : Int) : FV (F T) 114 [.int .i64 j] = some (.fn (.func 127) [] [.rref [.int .i64 j]]) := by
  refine FV_W T114 (r := ?r) ?h ?v
  case h => exact W_fin (ex := .ret) (by simp (maxSteps := 2000000) [c114, c114_b]; with_reducible rfl) (by simp) (by first | (simp [c114]; done) | (simp [c114]; with_reducible rfl))
  case v => simp

section
variable (p : P2 → Bool) (g : Nat) (cap : List AV)

theorem idx_loop (l : List P2) (hl : l.length ≤ 140737488355328) (hp : ∀ x ∈ l, F T g [.agg (e2 x), .rref cap] [] = some (.bool (p x), [])) :
    ∀ (k i : Nat) (st : ASt), i + k = l.length → (∀ j (hj : j < l.length), j < i → p l[j] = false) → canon [0, 1, 7, 8] st = ⟨[.ro 2 (enc e2 l) false, .fn (.func g) [] [.rref cap], .top, .top, .top, .top, .top, .int .i64 l.length, .int .i64 i, .top, .top, .top, .top, .top, .top, .top, .top, .top, .top], [], 0, 0⟩ → W T c126_k0 st (Lift.Fin c126 (.int .i64 (fidx p l), [])) := by
  intro k
  induction k with
  | zero =>
    intro i st hi hb hc
    have e : fidx p l = -1 := by
      refine fidx_none ?_
      rw [List.any_eq_false]
      intro x hx
      obtain ⟨j, hj, rfl⟩ := List.mem_iff_getElem.1 hx
      simpa using hb j hj (by omega)
    have h1 : ¬ i < l.length := by omega
    unfold c126_k0
    refine W_exit (by rw [hc]; simp (maxSteps := 2000000) [c126_l0, h1]; with_reducible rfl) ?_
    exact W_fin (ex := .ret) (by simp (maxSteps := 2000000); with_reducible rfl) (by simp) (by first | (simp [c126, e]; done) | (simp [c126, e]; with_reducible rfl))
  | succ k ih =>
    intro i st hi hb hc
    have hlt : i < l.length := by omega
    have hw := wrapS i _ hlt hl
    have hcall := hp l[i] (List.getElem_mem hlt)
    simp only [e2] at hcall
    unfold c126_k0
    by_cases hpi : p l[i] = true
    · have e : fidx p l = i := by
        unfold fidx
        rw [List.findIdx?_eq_some_iff_getElem.2 ⟨hlt, hpi, fun j hj => by simpa using hb j (by omega) hj⟩]
      rw [hpi] at hcall
      exact W_ret (by rw [hc]; simp (maxSteps := 2000000) [c126_l0, hlt, hcall]; with_reducible rfl) (Fin_ret (by simp [c126, e]))
    · have hpi : p l[i] = false := by simpa using hpi
      rw [hpi] at hcall
      refine W_next (by rw [hc]; simp (maxSteps := 2000000) [c126_l0, hlt, hcall, hw]; with_reducible rfl) ?_
      exact ih (i + 1) _ (by omega) (fun j hj h => by
        rcases Nat.lt_or_ge j i with h1 | h1
        · exact hb j hj h1
        · obtain rfl : j = i := by omega
          exact hpi) (by simp)

theorem F_idx (l : List P2) (hl : l.length ≤ 140737488355328) (hp : ∀ x ∈ l, F T g [.agg (e2 x), .rref cap] [] = some (.bool (p x), [])) :
    F T 126 [.ro 2 (enc e2 l) false, .fn (.func g) [] [.rref cap]] [] = some (.int .i64 (fidx p l), []) := by
  refine F_W T126 ?_
  simp only [c126, c126_b, Lift.start]
  repeat (first | refine W_assoc ?_ | refine W_go (a := .region _ _) (by simp (maxSteps := 2000000); with_reducible rfl) ?_ | refine W_go (a := .cond _ _ _) (by simp (maxSteps := 2000000); with_reducible rfl) ?_ | refine W_go (a := .block _ (.seq _ _)) (by simp (maxSteps := 2000000); with_reducible rfl) ?_)
  exact idx_loop p g cap l hl hp l.length 0 _ (by simp) (fun j hj h => by omega) (by simp)

theorem F_con (l : List P2) (hl : l.length ≤ 140737488355328) (hp : ∀ x ∈ l, F T g [.agg (e2 x), .rref cap] [] = some (.bool (p x), [])) :
    F T 115 [.ro 2 (enc e2 l) false, .fn (.func g) [] [.rref cap]] [] = some (.bool (l.any p), []) := by
  have h1 := FV_of (F_idx p g cap l hl hp)
  simp at h1
  have h2 : decide (0 ≤ fidx p l) = l.any p := by
    cases h : l.any p with
    | false => rw [fidx_none h]; rfl
    | true => obtain ⟨i, hi, _⟩ := fidx_some h; rw [hi]; simp
  refine F_W T115 ?_
  exact W_fin (ex := .ret) (by simp (maxSteps := 2000000) [c115, c115_b, h1, h2]; with_reducible rfl) (by simp) (by first | (simp [c115]; done) | (simp [c115]; with_reducible rfl))

/-- The row with what is kept at its begin. -/
theorem del_loop (l : List P2) (hl : l.length ≤ 1000000) (hp : ∀ x ∈ l, F T g [.agg (e2 x), .rref cap] [] = some (.bool (p x), [])) :
    ∀ (k i j : Nat) (r : List P2) (st : ASt), j + k = l.length → Kept (fun x => !p x) l r i j → canon [0, 1, 5, 6] st = ⟨[.own 0 0 l.length, .fn (.func g) [] [.rref cap], .top, .top, .top, .int .i64 i, .int .i64 j, .top, .top, .top, .top, .top, .top, .top, .top, .top, .top, .top, .top, .top, .top, .top, .top, .top, .top, .top, .top, .top, .top, .top, .top, .top, .top, .top, .top, .top, .top, .top, .top, .top, .top, .top], [(0, ⟨84, 2, false, enc e2 r, 0⟩)], 1, 1⟩ →
      W T c113_k0 st (Lift.Fin c113 (.own 0 0 (l.filter fun x => !p x).length, [⟨84, 2, false, enc e2 ((l.filter fun x => !p x) ++ List.replicate (l.length - (l.filter fun x => !p x).length) (0, 0)), 0⟩])) := by
  intro k
  induction k with
  | zero =>
    intro i j r st hj hk hc
    obtain rfl : j = l.length := by omega
    obtain ⟨h1, rfl⟩ := hk.done
    have hlr := hk.len
    have hij := hk.ij
    unfold c113_k0
    refine W_exit (by rw [hc]; simp (maxSteps := 2000000) [c113_l0]; with_reducible rfl) ?_

    have h3 : (l.filter fun x => !p x).length + (l.length - (l.filter fun x => !p x).length) = l.length := by omega
    have h4 : List.drop l.length r = [] := List.drop_of_length_le (by omega)
    exact W_fin (ex := .ret) (by simp (maxSteps := 2000000) [hlr, hij, h3, h4, h1]; with_reducible rfl) (by simp) (by first | (simp [c113, h1]; done) | (simp [c113, h1]; with_reducible rfl))
  | succ k ih =>
    intro i j r st hj hk hc
    have hlt : j < l.length := by omega
    have hw := wrapS j _ hlt (by omega)
    have hcall := hp l[j] (List.getElem_mem hlt)
    simp only [e2] at hcall
    have hlr := hk.len
    have hij := hk.ij
    have hil : i < l.length := by omega
    have hw2 := wrapS i _ hil (by omega)
    have hat := hk.at_ hlt
    unfold c113_k0
    by_cases hpi : p l[j] = true
    · rw [hpi] at hcall
      refine W_next (by rw [hc]; simp (maxSteps := 2000000) [c113_l0, hlt, hcall, hw, hlr, hat]; with_reducible rfl) ?_
      exact ih i (j + 1) r _ (by omega) (hk.skip hlt (by simp [hpi])) (by simp)
    · have hpi : p l[j] = false := by simpa using hpi
      rw [hpi] at hcall
      refine W_next (by rw [hc]; simp (maxSteps := 2000000) [c113_l0, hlt, hcall, hw, hlr, hat, hil, hw2]; with_reducible rfl) ?_
      exact ih (i + 1) (j + 1) (r.set i l[j]) _ (by omega) (hk.keep hlt (by simp [hpi])) (by simp)

theorem F_del (l : List P2) (hl : l.length ≤ 1000000) (hp : ∀ x ∈ l, F T g [.agg (e2 x), .rref cap] [] = some (.bool (p x), [])) :
    F T 113 [.own 0 0 l.length, .fn (.func g) [] [.rref cap]] [⟨84, 2, false, enc e2 l, 0⟩] =
      some (.own 0 0 (l.filter fun x => !p x).length, [⟨84, 2, false, enc e2 ((l.filter fun x => !p x) ++ List.replicate (l.length - (l.filter fun x => !p x).length) (0, 0)), 0⟩]) := by
  have hidx := F_idx p g cap l (by omega) hp
  refine F_W T113 ?_
  cases h : l.any p with
  | false =>
    have hf : (l.filter fun x => !p x) = l := by
      rw [List.filter_eq_self]
      intro x hx
      rw [List.any_eq_false] at h
      simpa using h x hx
    rw [fidx_none h] at hidx
    rw [hf]
    simp only [c113, c113_b, Lift.start]
    (repeat (first | refine W_assoc ?_ | refine W_go (a := .region _ _) (by simp (maxSteps := 2000000) [hidx]; with_reducible rfl) ?_ | refine W_go (a := .cond _ _ _) (by simp (maxSteps := 2000000) [hidx]; with_reducible rfl) ?_ | refine W_go (a := .block _ (.seq _ _)) (by simp (maxSteps := 2000000) [hidx]; with_reducible rfl) ?_)); first | exact W_stop (by simp (maxSteps := 2000000) [hidx]; with_reducible rfl) (by first | (simp [c113]; done) | (simp [c113]; with_reducible rfl)) | exact W_fin (ex := .ret) (by simp (maxSteps := 2000000) [hidx]; with_reducible rfl) (by simp) (by first | (simp [c113]; done) | (simp [c113]; with_reducible rfl))
  | true =>
    obtain ⟨i, hi, hil, hpi, hbef⟩ := fidx_some h
    rw [hi] at hidx
    have hne : ¬ (i : Int) = -1 := by omega
    have hw := wrapS i _ hil (by omega)
    have hk0 : Kept (fun x => !p x) l l i i := by
      refine ⟨rfl, Nat.le_refl _, by omega, ?_, rfl⟩
      rw [List.filter_eq_self.2]
      intro x hx
      obtain ⟨j, hj, rfl⟩ := List.mem_iff_getElem.1 hx
      simp at hj ⊢
      exact hbef j (by omega)
    simp only [c113, c113_b, Lift.start]
    repeat (first | refine W_assoc ?_ | refine W_go (a := .region _ _) (by simp (maxSteps := 2000000) [hidx, hne, hw]; with_reducible rfl) ?_ | refine W_go (a := .cond _ _ _) (by simp (maxSteps := 2000000) [hidx, hne, hw]; with_reducible rfl) ?_ | refine W_go (a := .block _ (.seq _ _)) (by simp (maxSteps := 2000000) [hidx, hne, hw]; with_reducible rfl) ?_)
    exact del_loop p g cap l hl hp (l.length - (i + 1)) i (i + 1) l _ (by omega) (hk0.skip hil (by simp [hpi])) (by simp)
end

theorem F_has (l : List P2) (hl : l.length ≤ 1000000) (j : Int) : F T 67 [.ro 2 (enc e2 l) false, .int .i64 j] [] = some (.bool (l.any fun x => decide (x.1 = j)), []) := by
  have h1 := FV_of (F_con (fun x => decide (x.1 = j)) 127 [.int .i64 j] l (by omega) (fun x _ => F_of1 x.1 x.2 j))
  simp at h1
  refine F_W T67 ?_
  exact W_fin (ex := .ret) (by simp (maxSteps := 2000000) [c67, c67_b, V_of, h1]; with_reducible rfl) (by simp) (by first | (simp [c67]; done) | (simp [c67]; with_reducible rfl))

theorem F_clo (l : List P2) (hl : l.length ≤ 1000000) : F T 112 [.ro 2 (enc e2 l) false] [] = some (.own 0 0 l.length, [⟨84, 2, false, enc e2 l, 0⟩]) :=
  F_cloneE T112 rfl (.inl rfl) (by omega) (by omega)

/-- Push, as values. -/
def push (l : List P2) (lim : Int) (p : P2) : List P2 × Int := if l.any (fun x => decide (x.1 = p.1)) then (l, 9) else if lim ≤ l.length then (l, 7) else (l ++ [p], 0)

theorem F_push (l : List P2) (hl : l.length ≤ 1000000) (lim : Int) (p : P2) : F T 58 [.ro 2 (enc e2 l) false, .int .i64 lim, .agg (e2 p)] [] =
    some (.tup [.own 0 0 (push l lim p).1.length, .int .i64 (push l lim p).2], [⟨84, 2, false, enc e2 (push l lim p).1, 0⟩]) := by
  have h1 := FV_of (F_has l hl p.1)
  have h2 := F_clo l hl
  have hb : (l.length + 1) * 16 ≤ 140737488355328 := by omega
  have hb2 : l.length + 1 ≤ 140737488355328 := by omega
  simp at h1
  refine F_W T58 ?_
  cases h : l.any (fun x => decide (x.1 = p.1)) with
  | true =>
    rw [h] at h1
    simp only [push, h, if_true]
    exact W_fin (ex := .ret) (by simp (maxSteps := 2000000) [c58, c58_b, h1, h2]; with_reducible rfl) (by simp) (by first | (simp [c58]; done) | (simp [c58]; with_reducible rfl))
  | false =>
    rw [h] at h1
    by_cases hf : lim ≤ l.length
    · simp only [push, h, if_pos hf, Bool.false_eq_true, if_false]
      exact W_fin (ex := .ret) (by simp (maxSteps := 2000000) [c58, c58_b, h1, h2, hf]; with_reducible rfl) (by simp) (by first | (simp [c58]; done) | (simp [c58]; with_reducible rfl))
    · simp only [push, h, if_neg hf, Bool.false_eq_true, if_false]
      exact W_fin (ex := .ret) (by simp (maxSteps := 2000000) [c58, c58_b, h1, h2, hf, hb, hb2]; with_reducible rfl) (by simp) (by first | (simp [c58]; done) | (simp [c58]; with_reducible rfl))

theorem F_pop (l : List P2) (hl : l.length ≤ 1000000) : F T 62 [.ro 2 (enc e2 l) false] [] =
    some (.tup [.agg (e2 (l.head?.getD (0, 0))), .own 0 0 l.tail.length, .bool (!l.isEmpty)], [⟨84, 2, false, enc e2 l.tail, 0⟩]) := by
  refine F_W T62 ?_
  cases l with
  | nil => exact W_fin (ex := .ret) (by simp (maxSteps := 2000000) [c62, c62_b]; with_reducible rfl) (by simp) (by first | (simp [c62]; done) | (simp [c62]; with_reducible rfl))
  | cons a t =>
    have h2 := F_clo t (by simp at hl; omega)
    have h3 : (1:Int) ≤ t.length + 1 := by omega
    exact W_fin (ex := .ret) (by simp (maxSteps := 2000000) [c62, c62_b, h2, h3]; with_reducible rfl) (by simp) (by first | (simp [c62]; done) | (simp [c62]; with_reducible rfl))

theorem EQU_loop (l m : List P2) (hl : l.length ≤ 140737488355328) (hlm : l.length = m.length) :
    ∀ (k i : Nat) (st : ASt), i + k = l.length → canon [0, 1, 12, 13] st = ⟨[.ro 2 (enc e2 l) false, .ro 2 (enc e2 m) false, .top, .top, .top, .top, .top, .top, .top, .top, .top, .top, .int .i64 l.length, .int .i64 i, .top, .top, .top, .top, .top, .top, .top, .top, .top, .top, .top, .top], [], 0, 0⟩ → W T c116_k0 st (Lift.Fin c116 (.bool (decide (l.drop i = m.drop i)), [])) := by
  intro k
  induction k with
  | zero =>
    intro i st hi hc
    have h1 : ¬ i < l.length := by omega
    have e1 : l.drop i = [] := List.drop_of_length_le (by omega)
    have e2 : m.drop i = [] := List.drop_of_length_le (by omega)
    unfold c116_k0
    refine W_exit (by rw [hc]; simp (maxSteps := 2000000) [c116_l0, h1]; with_reducible rfl) ?_
    exact W_fin (ex := .ret) (by simp (maxSteps := 2000000); with_reducible rfl) (by simp) (by first | (simp [c116, e1, e2]; done) | (simp [c116, e1, e2]; with_reducible rfl))
  | succ k ih =>
    intro i st hi hc
    have hlt : i < l.length := by omega
    have hlt2 : i < m.length := by omega
    have hw := wrapS i _ hlt hl
    have d1 := List.drop_eq_getElem_cons hlt
    have d2 := List.drop_eq_getElem_cons hlt2
    unfold c116_k0
    by_cases he : l[i] = m[i]
    · rw [d1, d2, he]
      simp only [List.cons.injEq, true_and]
      refine W_next (by rw [hc]; simp (maxSteps := 2000000) [c116_l0, hlt, hlt2, hw, he, eqCs, hlm]; with_reducible rfl) ?_
      exact ih (i + 1) _ (by omega) (by simp [hlm])
    · have hd : decide (l.drop i = m.drop i) = false := by
        rw [decide_eq_false_iff_not, d1, d2]; intro e; injection e with e _; exact he e
      rw [hd]
      have hne := e2_ne he
      exact W_ret (by rw [hc]; simp (maxSteps := 2000000) [c116_l0, hlt, hlt2, hne, eqCs, hlm]; with_reducible rfl) (Fin_ret (by simp [c116]))

theorem F_EQU (l m : List P2) (hl : l.length ≤ 1000000) (hm : m.length ≤ 1000000) : F T 116 [.ro 2 (enc e2 l) false, .ro 2 (enc e2 m) false] [] = some (.bool (decide (l = m)), []) := by
  refine F_W T116 ?_
  by_cases h : l.length = m.length
  · simp only [c116, c116_b, Lift.start]
    repeat (first | refine W_assoc ?_ | refine W_go (a := .region _ _) (by simp (maxSteps := 2000000) [h]; with_reducible rfl) ?_ | refine W_go (a := .cond _ _ _) (by simp (maxSteps := 2000000) [h]; with_reducible rfl) ?_ | refine W_go (a := .block _ (.seq _ _)) (by simp (maxSteps := 2000000) [h]; with_reducible rfl) ?_)
    have := EQU_loop l m (by omega) h l.length 0
    simp only [List.drop_zero] at this
    exact this _ (by simp) (by simp [h])
  · have h1 : decide (l = m) = false := by
      rw [decide_eq_false_iff_not]; intro e; exact h (by rw [e])
    have h2 : ¬ (l.length : Int) = (m.length : Int) := by omega
    rw [h1]
    exact W_fin (ex := .ret) (by simp (maxSteps := 2000000) [c116, c116_b, h2, h]; with_reducible rfl) (by simp) (by first | (simp [c116]; done) | (simp [c116]; with_reducible rfl))

theorem R29_Same_loop (l m : List P2) (hl : l.length ≤ 140737488355328) (hlm : l.length = m.length) :
    ∀ (k i : Nat) (st : ASt), i + k = l.length → canon [0, 1, 5] st = ⟨[.ro 2 (enc e2 l) false, .ro 2 (enc e2 m) false, .top, .top, .top, .int .i64 i, .top, .top, .top, .top, .top, .top, .top, .top, .top, .top, .top, .top, .top, .top, .top, .top, .top, .top, .top, .top], [], 0, 0⟩ → W T c69_k0 st (Lift.Fin c69 (.bool (decide (l.drop i = m.drop i)), [])) := by
  intro k
  induction k with
  | zero =>
    intro i st hi hc
    have h1 : ¬ i < l.length := by omega
    have e1 : l.drop i = [] := List.drop_of_length_le (by omega)
    have e2 : m.drop i = [] := List.drop_of_length_le (by omega)
    unfold c69_k0
    refine W_exit (by rw [hc]; simp (maxSteps := 2000000) [c69_l0, h1]; with_reducible rfl) ?_
    exact W_fin (ex := .ret) (by simp (maxSteps := 2000000); with_reducible rfl) (by simp) (by first | (simp [c69, e1, e2]; done) | (simp [c69, e1, e2]; with_reducible rfl))
  | succ k ih =>
    intro i st hi hc
    have hlt : i < l.length := by omega
    have hlt2 : i < m.length := by omega
    have hw := wrapS i _ hlt hl
    have d1 := List.drop_eq_getElem_cons hlt
    have d2 := List.drop_eq_getElem_cons hlt2
    unfold c69_k0
    by_cases he : l[i] = m[i]
    · rw [d1, d2, he]
      simp only [List.cons.injEq, true_and]
      refine W_next (by rw [hc]; simp (maxSteps := 2000000) [c69_l0, hlt, hlt2, hw, he, eqCs, hlm]; with_reducible rfl) ?_
      exact ih (i + 1) _ (by omega) (by simp [hlm])
    · have hd : decide (l.drop i = m.drop i) = false := by
        rw [decide_eq_false_iff_not, d1, d2]; intro e; injection e with e _; exact he e
      rw [hd]
      have hne := e2_ne he
      exact W_ret (by rw [hc]; simp (maxSteps := 2000000) [c69_l0, hlt, hlt2, hne, eqCs, hlm]; with_reducible rfl) (Fin_ret (by simp [c69]))

theorem F_R29_Same (l m : List P2) (hl : l.length ≤ 1000000) (hm : m.length ≤ 1000000) : F T 69 [.ro 2 (enc e2 l) false, .ro 2 (enc e2 m) false] [] = some (.bool (decide (l = m)), []) := by
  refine F_W T69 ?_
  by_cases h : l.length = m.length
  · simp only [c69, c69_b, Lift.start]
    repeat (first | refine W_assoc ?_ | refine W_go (a := .region _ _) (by simp (maxSteps := 2000000) [h]; with_reducible rfl) ?_ | refine W_go (a := .cond _ _ _) (by simp (maxSteps := 2000000) [h]; with_reducible rfl) ?_ | refine W_go (a := .block _ (.seq _ _)) (by simp (maxSteps := 2000000) [h]; with_reducible rfl) ?_)
    have := R29_Same_loop l m (by omega) h l.length 0
    simp only [List.drop_zero] at this
    exact this _ (by simp) (by simp [h])
  · have h1 : decide (l = m) = false := by
      rw [decide_eq_false_iff_not]; intro e; exact h (by rw [e])
    have h2 : ¬ (l.length : Int) = (m.length : Int) := by omega
    rw [h1]
    exact W_fin (ex := .ret) (by simp (maxSteps := 2000000) [c69, c69_b, h2, h]; with_reducible rfl) (by simp) (by first | (simp [c69]; done) | (simp [c69]; with_reducible rfl))

theorem R29_Has_loop (l : List P2) (j : Int) (hl : l.length ≤ 140737488355328) :
    ∀ (k i : Nat) (st : ASt), i + k = l.length → canon [0, 1, 5] st = ⟨[.ro 2 (enc e2 l) false, .int .i64 j, .top, .top, .top, .int .i64 i, .top, .top, .top, .top, .top, .top, .top, .top, .top, .top, .top, .top, .top], [], 0, 0⟩ → W T c65_k0 st (Lift.Fin c65 (.bool ((l.drop i).any fun x => decide (x.1 = j)), [])) := by
  intro k
  induction k with
  | zero =>
    intro i st hi hc
    have h1 : ¬ i < l.length := by omega
    have e1 : l.drop i = [] := List.drop_of_length_le (by omega)
    unfold c65_k0
    refine W_exit (by rw [hc]; simp (maxSteps := 2000000) [c65_l0, h1]; with_reducible rfl) ?_
    exact W_fin (ex := .ret) (by simp (maxSteps := 2000000); with_reducible rfl) (by simp) (by first | (simp [c65, e1]; done) | (simp [c65, e1]; with_reducible rfl))
  | succ k ih =>
    intro i st hi hc
    have hlt : i < l.length := by omega
    have hw := wrapS i _ hlt hl
    have d1 := List.drop_eq_getElem_cons hlt
    unfold c65_k0
    by_cases he : (fun x : P2 => decide (x.1 = j)) l[i] = true
    · simp only [d1, List.any_cons]
      simp only [] at he
      rw [he]
      simp at he
      exact W_ret (by rw [hc]; simp (maxSteps := 2000000) [c65_l0, hlt, he]; with_reducible rfl) (Fin_ret (by simp [c65]))
    · simp only [d1, List.any_cons]
      simp only [Bool.not_eq_true] at he
      rw [he]
      simp at he
      refine W_next (by rw [hc]; simp (maxSteps := 2000000) [c65_l0, hlt, hw, he]; with_reducible rfl) ?_
      exact ih (i + 1) _ (by omega) (by simp)

theorem F_R29_Has (l : List P2) (hl : l.length ≤ 1000000) (j : Int) : F T 65 [.ro 2 (enc e2 l) false, .int .i64 j] [] = some (.bool (l.any fun x => decide (x.1 = j)), []) := by
  refine F_W T65 ?_
  simp only [c65, c65_b, Lift.start]
  repeat (first | refine W_assoc ?_ | refine W_go (a := .region _ _) (by simp (maxSteps := 2000000); with_reducible rfl) ?_ | refine W_go (a := .cond _ _ _) (by simp (maxSteps := 2000000); with_reducible rfl) ?_ | refine W_go (a := .block _ (.seq _ _)) (by simp (maxSteps := 2000000); with_reducible rfl) ?_)
  exact R29_Has_loop l j (by omega) l.length 0 _ (by simp) (by simp)

end Go.Proofs.Ytnobgooojbppbaa.Queue
