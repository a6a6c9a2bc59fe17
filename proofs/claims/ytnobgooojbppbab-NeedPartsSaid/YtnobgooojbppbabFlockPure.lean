/- Sets of small numbers as natural numbers' bits. -/
import Derived.Test.YtnobgooojbppbabFlockIn
set_option linter.all false
set_option linter.unusedSimpArgs false
namespace Go.Proofs.Ytnobgooojbppbab.FlockIn
open Go

theorem has_nat (x : Nat) (k : Int) : has (x : Int) k = (decide (0 ≤ k) && (decide (k < 64) && x.testBit k.toNat)) := by
  unfold has
  by_cases h : 0 ≤ k
  · obtain ⟨m, rfl⟩ := Int.eq_ofNat_of_zero_le h
    simp only [Int.toNat_natCast]
    congr 2
    rw [Nat.testBit_eq_decide_div_mod_eq]
    have e : ((x : Int) / 2 ^ m % 2 = 1) ↔ (x / 2 ^ m % 2 = 1) := by
      have : ((x : Int) / 2 ^ m % 2) = ((x / 2 ^ m % 2 : Nat) : Int) := by simp
      rw [this]; omega
    simp only [e]
  · simp [h]

theorem has_bit (x k : Nat) (hk : k < 64) : has (x : Int) (k : Int) = x.testBit k := by
  rw [has_nat]
  have h1 : (0 : Int) ≤ k := by omega
  have h2 : (k : Int) < 64 := by omega
  simp [h1, h2]

/-- The number with these bits. -/
def ofN (p : Nat → Bool) : Nat → Nat
  | 0 => 0
  | n + 1 => ofN p n + (if p n then 2 ^ n else 0)

theorem ofN_lt (p : Nat → Bool) : ∀ n, ofN p n < 2 ^ n
  | 0 => by simp [ofN]
  | n + 1 => by
    have := ofN_lt p n
    simp only [ofN]
    rw [Nat.pow_succ]
    split <;> omega

theorem ofN_bit (p : Nat → Bool) : ∀ n j, (ofN p n).testBit j = (decide (j < n) && p j)
  | 0, j => by simp [ofN]
  | n + 1, j => by
    have ih := ofN_bit p n
    have hlt := ofN_lt p n
    simp only [ofN]
    by_cases hp : p n = true
    · rw [if_pos hp, Nat.add_comm]
      rcases Nat.lt_trichotomy j n with h | h | h
      · rw [Nat.testBit_two_pow_add_gt h, ih]
        have h1 : j < n + 1 := by omega
        simp [h, h1]
      · subst h
        rw [Nat.testBit_two_pow_add_eq, Nat.testBit_lt_two_pow hlt, hp]
        simp
      · have h1 : ¬ j < n + 1 := by omega
        rw [Nat.testBit_lt_two_pow]
        · simp [h1]
        · have : 2 ^ (n + 1) ≤ 2 ^ j := Nat.pow_le_pow_right (by omega) (by omega)
          rw [Nat.pow_succ] at this
          omega
    · rw [if_neg hp, Nat.add_zero, ih]
      by_cases h : j = n
      · subst h; simp [hp]
      · have : (j < n + 1) ↔ (j < n) := by omega
        simp [this]

/-- Numbers below 2^64 with the same bits are the same. -/
theorem bits_ext {x y : Nat} (hx : x < 2 ^ 64) (hy : y < 2 ^ 64) (h : ∀ j, j < 64 → x.testBit j = y.testBit j) : x = y := by
  apply Nat.eq_of_testBit_eq
  intro j
  by_cases hj : j < 64
  · exact h j hj
  · have h1 : 2 ^ 64 ≤ 2 ^ j := Nat.pow_le_pow_right (by omega) (by omega)
    rw [Nat.testBit_lt_two_pow (by omega), Nat.testBit_lt_two_pow (by omega)]

theorem lst_mem (x n : Nat) (hn : n ≤ 64) (k : Int) : (lst (x : Int) n).any (fun y => decide (y = k)) = (decide (0 ≤ k) && (decide (k < n) && x.testBit k.toNat)) := by
  induction n with
  | zero =>
    have : ¬ (0 ≤ k ∧ k < 0) := by omega
    by_cases h : 0 ≤ k
    · have h2 : ¬ k < 0 := by omega
      simp [lst, h2]
    · simp [lst, h]
  | succ n ih =>
    rw [lst_succ, List.any_append, ih (by omega), has_bit x n (by omega)]
    by_cases h : 0 ≤ k
    · obtain ⟨m, rfl⟩ := Int.eq_ofNat_of_zero_le h
      simp only [Int.toNat_natCast, h, decide_true, Bool.true_and]
      rcases Nat.lt_trichotomy m n with h1 | h1 | h1
      · have e1 : (m : Int) < n := by omega
        have e2 : (m : Int) < (n + 1 : Nat) := by omega
        have e3 : ¬ n = m := by omega
        have e4 : ¬ (n : Int) = m := by omega
        cases hb : x.testBit n <;> simp [e1, e2, e4] <;> (first | omega | skip)
      · subst h1
        have e1 : ¬ (m : Int) < m := by omega
        have e2 : (m : Int) < (m + 1 : Nat) := by omega
        cases hb : x.testBit m <;> simp [e1, e2] <;> (first | omega | skip)
      · have e1 : ¬ (m : Int) < n := by omega
        have e2 : ¬ (m : Int) < (n + 1 : Nat) := by omega
        have e4 : ¬ (n : Int) = m := by omega
        cases hb : x.testBit n <;> simp [e1, e2, e4] <;> (first | omega | skip)
    · have e4 : ¬ (n : Int) = k := by omega
      cases hb : x.testBit n <;> simp [h, e4]

theorem pow_lt64 (k : Nat) (h : k < 64) : 2 ^ k < 2 ^ 64 := Nat.pow_lt_pow_right (by omega) h

theorem ofN64_lt (p : Nat → Bool) : ofN p 64 < 18446744073709551616 := ofN_lt p 64

theorem ofN_le (p : Nat → Bool) (n m : Nat) (h : n ≤ m) : ofN p n ≤ ofN p m := by
  induction m with
  | zero => obtain rfl : n = 0 := by omega
            exact Nat.le_refl _
  | succ m ih =>
    rcases Nat.lt_or_ge m n with h1 | h1
    · obtain rfl : n = m + 1 := by omega
      exact Nat.le_refl _
    · simp only [ofN]
      have := ih h1
      omega

theorem ofN_congr {p q : Nat → Bool} (h : ∀ j, j < 64 → p j = q j) : ofN p 64 = ofN q 64 :=
  bits_ext (ofN_lt p 64) (ofN_lt q 64) fun j hj => by rw [ofN_bit, ofN_bit, h j hj]

/-- With, by bits. -/
theorem with_bits (x k : Nat) (hx : x < 2 ^ 64) (hk : k < 64) : x ||| 2 ^ k = ofN (fun j => x.testBit j || decide (k = j)) 64 := by
  refine bits_ext ?_ (ofN_lt _ 64) fun j hj => ?_
  · exact Nat.or_lt_two_pow hx (pow_lt64 k hk)
  · rw [Nat.testBit_or, Nat.testBit_two_pow, ofN_bit]
    simp [hj]

/-- Without, by bits. -/
theorem without_bits (x y k : Nat) (hx : x < 2 ^ 64) (hk : k < 64) (hy : y < 2 ^ 64) (h : ∀ j, j < 64 → y.testBit j = (x.testBit j && !decide (k = j))) : y = ofN (fun j => x.testBit j && !decide (k = j)) 64 :=
  bits_ext hy (ofN_lt _ 64) fun j hj => by rw [ofN_bit, h j hj]; simp [hj]

theorem self_bits (x : Nat) (hx : x < 2 ^ 64) : ofN (fun j => x.testBit j) 64 = x :=
  bits_ext (ofN_lt _ 64) hx fun j hj => by rw [ofN_bit]; simp [hj]

theorem below_bits (n : Nat) (hn : n ≤ 64) : ofN (fun j => decide (j < n)) 64 = 2 ^ n - 1 := by
  refine bits_ext (ofN_lt _ 64) ?_ fun j hj => ?_
  · have : 2 ^ n ≤ 2 ^ 64 := Nat.pow_le_pow_right (by omega) hn
    have : 0 < 2 ^ n := Nat.pow_pos (by omega)
    omega
  · rw [ofN_bit, Nat.testBit_two_pow_sub_one]
    simp [hj]

end Go.Proofs.Ytnobgooojbppbab.FlockIn
