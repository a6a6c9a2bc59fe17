/- Sets of small numbers. -/
import Derived.Test.YtnobgooojbppbabLiftS
set_option linter.all false
set_option linter.unusedSimpArgs false
namespace Go.Proofs.Ytnobgooojbppbab.FlockIn
open Go Go.RowKit

def has (s k : Int) : Bool := decide (0 ≤ k) && (decide (k < 64) && decide (s / 2 ^ k.toNat % 2 = 1))


def lst (s : Int) (n : Nat) : List Int := (List.range n).filterMap fun (k : Nat) => if has s (k : Int) = true then some (k : Int) else none


theorem lst_succ (s : Int) (n : Nat) : lst s (n + 1) = lst s n ++ (if has s n = true then [(n : Int)] else []) := by
  unfold lst
  rw [List.range_succ, List.filterMap_append]
  congr 1
  by_cases h : has s n = true <;> simp [h]


theorem lst_len (s : Int) (n : Nat) : (lst s n).length ≤ n := by
  have := List.length_filterMap_le (fun (k : Nat) => if has s (k : Int) = true then some (k : Int) else none) (List.range n)
  simpa [lst] using this


theorem lst_prefix (s : Int) (n m : Nat) (h : n ≤ m) : lst s n <+: lst s m := by
  induction m with
  | zero => obtain rfl : n = 0 := by omega
            exact List.prefix_refl _
  | succ m ih =>
    rcases Nat.lt_or_ge m n with h1 | h1
    · obtain rfl : n = m + 1 := by omega
      exact List.prefix_refl _
    · rw [lst_succ]
      exact (ih h1).trans (List.prefix_append _ _)


end Go.Proofs.Ytnobgooojbppbab.FlockIn
