/- Rows of pairs, and plain lists. -/
import Derived.Test.YtjpccbjgmogclaaLiftS
set_option linter.all false
set_option linter.unusedSimpArgs false
namespace Go.Proofs.Ytjpccbjgmogclaa.Base
open Go Go.RowKit Go.Proofs.Ytjpccbjgmogclaa.Lift

/-- Two numbers. -/
abbrev P2 := Int × Int
@[simp] def e2 (p : P2) : List AV := [.int .i64 p.1, .int .i64 p.2]
instance : Plain e2 := ⟨fun a => rfl⟩

theorem enc_cons {α : Type} (e : α → List AV) (a : α) (l : List α) : enc e (a :: l) = e a :: enc e l := rfl
@[simp] theorem row_two (a b : Int) : [[AV.int .i64 a, AV.int .i64 b]] = enc e2 [(a, b)] := rfl
@[simp] theorem enc_set2 (l : List P2) (i : Nat) (a b : Int) : (enc e2 l).set i [AV.int .i64 a, AV.int .i64 b] = enc e2 (l.set i (a, b)) := enc_set e2 l i (a, b)
@[simp] theorem zeros_two (n : Nat) : List.replicate n [AV.int .i64 0, AV.int .i64 0] = enc e2 (List.replicate n (0, 0)) := by simp [enc]
theorem enc_one {α : Type} (e : α → List AV) (a : α) : [e a] = enc e [a] := rfl

@[simp] theorem enc1_flatten {α : Type} (e : α → List AV) (a : α) : (enc e [a]).flatten = e a := by simp [enc]
@[simp] theorem enc1_sum {α : Type} (e : α → List AV) (a : α) : ((enc e [a]).map List.length).sum = (e a).length := by simp [enc]
@[simp] theorem enc_tail {α : Type} (e : α → List AV) (l : List α) : (enc e l).tail = enc e l.tail := by cases l <;> rfl
@[simp] theorem enc_drop1 {α : Type} (e : α → List AV) (a : α) (l : List α) : (enc e (a :: l)).drop 1 = enc e l := rfl
@[simp] theorem not_succ_le (n : Nat) : ¬ (n + 1 ≤ n) := by omega
@[simp] theorem cast_succ_ne (n : Nat) : ¬ ((n : Int) + 1 = 0) := by omega
theorem e2_ne {a b : P2} (h : ¬ a = b) : ((a.1 == b.1) && (a.2 == b.2)) = false := by
  cases hc : ((a.1 == b.1) && (a.2 == b.2)) with
  | false => rfl
  | true =>
    simp at hc
    exact absurd (Prod.ext hc.1 hc.2) h
theorem e2_ne' {a b : P2} (h : ¬ a = b) : a.1 = b.1 → ¬ a.2 = b.2 := fun h1 h2 => h (Prod.ext h1 h2)

/-- The first place, as a number. -/
def fidx {α : Type} (p : α → Bool) (l : List α) : Int := match l.findIdx? p with | some i => i | none => -1

theorem fidx_none {α : Type} {p : α → Bool} {l : List α} (h : l.any p = false) : fidx p l = -1 := by
  unfold fidx
  rw [List.findIdx?_eq_none_iff.2]
  intro x hx
  rw [List.any_eq_false] at h
  simpa using h x hx

theorem fidx_some {α : Type} {p : α → Bool} {l : List α} (h : l.any p = true) : ∃ i : Nat, fidx p l = i ∧ ∃ h : i < l.length, p l[i] = true ∧ ∀ j (hj : j < i), p (l[j]'(by omega)) = false := by
  obtain ⟨i, hi⟩ : ∃ i, l.findIdx? p = some i := by
    cases hc : l.findIdx? p with
    | some i => exact ⟨i, rfl⟩
    | none =>
      rw [List.findIdx?_eq_none_iff] at hc
      obtain ⟨x, hx, hp⟩ := List.any_eq_true.1 h
      rw [hc x hx] at hp; cases hp
  obtain ⟨h1, h2, h3⟩ := List.findIdx?_eq_some_iff_getElem.1 hi
  exact ⟨i, by simp [fidx, hi], h1, h2, fun j hj => by simpa using h3 j hj⟩

theorem wrapS (i n : Nat) (h : i < n) (hn : n ≤ 140737488355328) : IntKind.i64.wrap ((i : Int) + 1) = (i : Int) + 1 := by
  rw [wrap_i64 _ (by omega) (by omega)]

/-- What is kept, written down over what there was. -/
structure Kept {α : Type} (q : α → Bool) (l r : List α) (i j : Nat) : Prop where
  len : r.length = l.length
  ij : i ≤ j
  jn : j ≤ l.length
  t : r.take i = (l.take j).filter q
  d : r.drop j = l.drop j

theorem Kept.at_ {α : Type} {q : α → Bool} {l r : List α} {i j : Nat} (h : Kept q l r i j) (hj : j < l.length) : r[j]'(by rw [h.len]; exact hj) = l[j] := by
  have h1 := List.drop_eq_getElem_cons hj
  have h2 := List.drop_eq_getElem_cons (l := r) (by rw [h.len]; exact hj)
  rw [h.d, h1] at h2
  injection h2 with h3 _
  exact h3.symm

theorem Kept.skip {α : Type} {q : α → Bool} {l r : List α} {i j : Nat} (h : Kept q l r i j) (hj : j < l.length) (hq : q l[j] = false) : Kept q l r i (j + 1) := by
  refine ⟨h.len, by have := h.ij; omega, hj, ?_, ?_⟩
  · rw [h.t, List.take_succ_eq_append_getElem hj, List.filter_append]; simp [hq]
  · have := congrArg (List.drop 1) h.d
    simpa [List.drop_drop] using this

theorem Kept.keep {α : Type} {q : α → Bool} {l r : List α} {i j : Nat} (h : Kept q l r i j) (hj : j < l.length) (hq : q l[j] = true) : Kept q l (r.set i l[j]) (i + 1) (j + 1) := by
  have hij := h.ij
  have hir : i < r.length := by rw [h.len]; omega
  refine ⟨by simp [h.len], by omega, hj, ?_, ?_⟩
  · rw [List.take_succ_eq_append_getElem (by simpa using hir), List.take_set_of_le (Nat.le_refl _), h.t, List.take_succ_eq_append_getElem hj, List.filter_append]; simp [hq]
  · rw [List.drop_set_of_lt (by omega)]
    have := congrArg (List.drop 1) h.d
    simpa [List.drop_drop] using this

theorem Kept.done {α : Type} {q : α → Bool} {l r : List α} {i : Nat} (h : Kept q l r i l.length) : r.take i = l.filter q ∧ i = (l.filter q).length := by
  have h1 := h.t
  rw [List.take_length] at h1
  refine ⟨h1, ?_⟩
  rw [← h1, List.length_take, Nat.min_eq_left]
  have := h.ij; rw [h.len]; exact this


theorem flatMap_drop {α : Type} (P : α → Prop) [DecidablePred P] (l : List α) : l.flatMap (fun x => if P x then [] else [x]) = l.filter fun x => !decide (P x) := by
  induction l with
  | nil => rfl
  | cons a t ih => simp only [List.flatMap_cons, List.filter_cons, ih]; by_cases h : P a <;> simp [h]

theorem flatMap_keep {α : Type} (P : α → Prop) [DecidablePred P] (l : List α) : l.flatMap (fun x => if P x then [x] else []) = l.filter fun x => decide (P x) := by
  induction l with
  | nil => rfl
  | cons a t ih => simp only [List.flatMap_cons, List.filter_cons, ih]; by_cases h : P a <;> simp [h]

theorem flatMap_if {α β : Type} (P : α → Prop) [DecidablePred P] (f g : α → β) (l : List α) : l.flatMap (fun x => if P x then [f x] else [g x]) = l.map fun x => if P x then f x else g x := by
  induction l with
  | nil => rfl
  | cons a t ih => simp only [List.flatMap_cons, List.map_cons, ih]; by_cases h : P a <;> simp [h]

theorem flatMap_one {α β : Type} (f : α → β) (l : List α) : l.flatMap (fun x => [f x]) = l.map f := by
  induction l with
  | nil => rfl
  | cons a t ih => simp only [List.flatMap_cons, List.map_cons, ih]; rfl

/-- A row, place by place. -/
theorem mut_step {α : Type} (f : α → α) (r : List α) (i : Nat) (h : i < r.length) : (r.set i (f r[i])).take (i + 1) ++ ((r.set i (f r[i])).drop (i + 1)).map f = r.take i ++ (r.drop i).map f := by
  rw [List.drop_set_of_lt (by omega), List.take_succ_eq_append_getElem (by simpa using h), List.take_set_of_le (Nat.le_refl _), List.drop_eq_getElem_cons h]
  simp only [List.getElem_set_self, List.map_cons, List.append_assoc, List.singleton_append]

theorem mut_skip {α : Type} (f : α → α) (r : List α) (i : Nat) (h : i < r.length) (hf : f r[i] = r[i]) : r.take (i + 1) ++ (r.drop (i + 1)).map f = r.take i ++ (r.drop i).map f := by
  rw [List.take_succ_eq_append_getElem h, List.drop_eq_getElem_cons h]
  simp only [List.map_cons, List.append_assoc, List.singleton_append, hf]

@[simp] theorem take_snoc {α : Type} (l : List α) (a : α) : (l ++ [a]).take (l.length + 1) = l ++ [a] := List.take_of_length_le (by simp)

@[simp] theorem take_map_len {α β : Type} (f : α → β) (l : List α) : (l.map f).take l.length = l.map f := List.take_of_length_le (by simp)
@[simp] theorem take_map_len' {α β : Type} (f : α → β) (l : List α) : (l.take l.length).map f = l.map f := by rw [List.take_length]
@[simp] theorem take_tail_len {α : Type} (l : List α) : l.tail.take (l.length - 1) = l.tail := List.take_of_length_le (by simp)

@[simp] theorem enc_set1 (k : IntKind) (l : List Int) (i : Nat) (a : Int) : (enc (eInt k) l).set i [AV.int k a] = enc (eInt k) (l.set i a) := enc_set (eInt k) l i a

@[simp] theorem zeros_one (k : IntKind) (n : Nat) : List.replicate n [AV.int k 0] = enc (eInt k) (List.replicate n 0) := by simp [enc, eInt]

end Go.Proofs.Ytjpccbjgmogclaa.Base
