/- Draws: what is selected of a set. -/
import Derived.Test.YtnobgooojbppbaaFlock4
set_option linter.all false
set_option linter.unusedSimpArgs false
set_option maxRecDepth 100000
namespace Go.Proofs.Ytnobgooojbppbaa.Flock
open Go Go.RowKit Go.Proofs.Ytnobgooojbppbaa.Lift Go.Proofs.Ytnobgooojbppbaa.Base Go.Proofs.Ytnobgooojbppbaa.FlockIn

theorem fm_congr {α β : Type} {f g : α → Option β} : ∀ {l : List α}, (∀ x ∈ l, f x = g x) → l.filterMap f = l.filterMap g
  | [], _ => rfl
  | a :: l, h => by
    rw [List.filterMap_cons, List.filterMap_cons, h a (by simp), fm_congr fun x hx => h x (by simp [hx])]

theorem lst_wo (x : Nat) (k : Int) : lst (wo x k : Nat) 64 = (lst x 64).filter fun y => !decide (y = k) := by
  unfold lst
  rw [List.filter_filterMap]
  refine fm_congr fun j hj => ?_
  have hj' : j < 64 := List.mem_range.1 hj
  rw [has_bit _ j hj', has_bit _ j hj', wo_bit x k j hj']
  by_cases h1 : x.testBit j = true
  · by_cases h2 : k = (j : Int)
    · simp [h1, h2, Option.filter]
    · have h3 : ¬ (j : Int) = k := fun e => h2 e.symm
      simp [h1, h2, h3, Option.filter]
  · simp [h1]

theorem lst_in (x : Nat) (k : Int) (h : k ∈ lst (x : Int) 64) : 0 ≤ k ∧ k < 64 ∧ has x k = true := by
  unfold lst at h
  obtain ⟨j, hj, hk⟩ := List.mem_filterMap.1 h
  have hj' : j < 64 := List.mem_range.1 hj
  split at hk
  · rename_i hh
    cases hk
    exact ⟨by omega, by omega, hh⟩
  · cases hk

theorem lst_nodup (x : Int) : ∀ n, (lst x n).Nodup ∧ ∀ y ∈ lst x n, y < n := by
  intro n
  induction n with
  | zero => simp [lst]
  | succ n ih =>
    rw [lst_succ]
    refine ⟨?_, fun y hy => ?_⟩
    · rw [List.nodup_append]
      refine ⟨ih.1, by split <;> simp, fun a ha b hb => ?_⟩
      split at hb
      · simp at hb
        have := ih.2 a ha
        omega
      · simp at hb
    · rcases List.mem_append.1 hy with h | h
      · have := ih.2 y h; omega
      · split at h
        · simp at h; omega
        · simp at h

theorem lst_nil (x : Nat) (hx : x < 18446744073709551616) : lst (x : Int) 64 = [] ↔ x = 0 := by
  constructor
  · intro h
    refine bits_ext hx (by omega) fun j hj => ?_
    rw [← ofL_lst x j hj, h]
    simp [ofL]
  · rintro rfl
    decide

/-- Which one is told. -/
def low (l : List Int) (c : Nat) : Nat := (l.headD 0).toNat % c

/-- What is selected of a set, and the draws that are left. -/
def sel : Nat → List Int → Nat → List Int × List Int
  | 0, l, _ => ([], l)
  | n + 1, l, x => if x = 0 then ([], l) else
    ((nth x (low l (lst x 64).length : Nat)) :: (sel n l.tail (wo x (nth x (low l (lst x 64).length : Nat)))).1, (sel n l.tail (wo x (nth x (low l (lst x 64).length : Nat)))).2)

theorem nth_mem (x : Nat) (i : Nat) (h : i < (lst (x : Int) 64).length) : nth x (i : Int) = (lst (x : Int) 64)[i] ∧ nth x (i : Int) ∈ lst (x : Int) 64 := by
  have : nth x (i : Int) = (lst (x : Int) 64)[i] := by
    unfold nth
    rw [if_pos (by omega)]
    simp [List.getD, List.getElem?_eq_getElem h]
  rw [this]
  exact ⟨rfl, List.getElem_mem h⟩

theorem low_lt (l : List Int) (x : Nat) (hx : x < 18446744073709551616) (h : x ≠ 0) : low l (lst x 64).length < (lst (x : Int) 64).length := by
  unfold low
  refine Nat.mod_lt _ (List.length_pos_iff.2 fun e => h ((lst_nil x hx).1 e))

theorem filter_len {l : List Int} (hn : l.Nodup) {k : Int} (hk : k ∈ l) : (l.filter fun y => !decide (y = k)).length + 1 = l.length := by
  induction l with
  | nil => simp at hk
  | cons a l ih =>
    rw [List.nodup_cons] at hn
    by_cases h : a = k
    · subst h
      have : l.filter (fun y => !decide (y = a)) = l := by
        rw [List.filter_eq_self]
        intro b hb
        have : b ≠ a := fun e => hn.1 (e ▸ hb)
        simp [this]
      simp [this]
    · have hk' : k ∈ l := by
        rcases List.mem_cons.1 hk with e | e
        · exact absurd e.symm h
        · exact e
      simp [h, ih hn.2 hk']

theorem lst_wo_len (x : Nat) (k : Int) (hk : k ∈ lst (x : Int) 64) : (lst (wo x k : Nat) 64).length + 1 = (lst (x : Int) 64).length := by
  rw [lst_wo]; exact filter_len (lst_nodup x 64).1 hk

theorem sel_len : ∀ (n : Nat) (l : List Int) (x : Nat), x < 18446744073709551616 → (sel n l x).1.length = min n (lst (x : Int) 64).length
  | 0, l, x, hx => by simp [sel]
  | n + 1, l, x, hx => by
    unfold sel
    by_cases h : x = 0
    · subst h
      have : lst ((0 : Nat) : Int) 64 = [] := by decide
      rw [if_pos rfl, this]; simp
    · rw [if_neg h]
      have hl := low_lt l x hx h
      obtain ⟨_, hm⟩ := nth_mem x _ hl
      have hw := lst_wo_len x _ hm
      simp only [List.length_cons]
      rw [sel_len n l.tail _ (wo_lt _ _)]
      omega

end Go.Proofs.Ytnobgooojbppbaa.Flock
