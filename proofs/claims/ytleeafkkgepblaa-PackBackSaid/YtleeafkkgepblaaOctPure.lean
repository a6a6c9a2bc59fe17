/- Numbers and texts as bytes: digits, and what is read of bytes; no program in sight. -/
import Derived.Test.YtleeafkkgepblaaLiftS
set_option linter.all false
set_option linter.unusedSimpArgs false
set_option maxRecDepth 100000
namespace Go.Proofs.Ytleeafkkgepblaa.Oct
open Go Go.RowKit Go.Proofs.Ytleeafkkgepblaa.Lift

/-- Digits to the base 256, the greatest first. -/
def dig (n : Nat) : List Int := if h : n < 256 then [(n : Int)] else dig (n / 256) ++ [((n % 256 : Nat) : Int)]
termination_by n
decreasing_by omega

theorem dig_small {n : Nat} (h : n < 256) : dig n = [(n : Int)] := by rw [dig, dif_pos h]
theorem dig_step {n : Nat} (h : ¬ n < 256) : dig n = dig (n / 256) ++ [((n % 256 : Nat) : Int)] := by rw [dig, dif_neg h]
theorem dig_pos (n : Nat) : 1 ≤ (dig n).length := by
  by_cases h : n < 256
  · rw [dig_small h]; simp
  · rw [dig_step h]; simp
theorem dig_len (k : Nat) : ∀ n, n < 256 ^ (k + 1) → (dig n).length ≤ k + 1 := by
  induction k with
  | zero => intro n h; rw [dig_small (by omega)]; simp
  | succ k ih =>
    intro n h
    by_cases h' : n < 256
    · rw [dig_small h']; simp
    · rw [dig_step h']
      have := ih (n / 256) (by rw [Nat.pow_succ] at h; omega)
      simp; omega

theorem wrap_id (n : Int) (h0 : -9223372036854775808 ≤ n) (h1 : n ≤ 9223372036854775807) : IntKind.i64.wrap n = n := by
  rw [IntKind.wrap_i64]; omega

def D (n : Nat) (l : List Int) : List Int := if n = 0 ∧ l ≠ [] then l else dig n ++ l

theorem wrap8 (x : Int) (h : 0 ≤ x) : IntKind.u8.wrap x = x % 256 := by rw [IntKind.wrap_u8]

def numB (m : Nat) : List Int := if m < 248 then [(m : Int)] else (247 + (dig m).length : Int) :: dig m
def clampN (n : Int) : Nat := (min (max n 0) 72057594037927935).toNat

theorem dig_le (m : Nat) (h : m < 72057594037927936) : (dig m).length ≤ 7 := dig_len 6 m h

theorem numB_len (m : Nat) (h : m < 72057594037927936) : (numB m).length ≤ 8 := by
  have := dig_le m h
  unfold numB; split <;> simp; omega
theorem clampN_lt (n : Int) : clampN n < 72057594037927936 := by simp only [clampN]; omega

theorem dig_get (m : Nat) : ∀ i (h : i < (dig m).length), (dig m)[i] = ((m / 256 ^ ((dig m).length - 1 - i) % 256 : Nat) : Int) := by
  induction m using Nat.strongRecOn with
  | ind m ih =>
    intro i h
    by_cases h1 : m < 256
    · simp only [dig_small h1, List.length_singleton] at h ⊢
      obtain rfl : i = 0 := by omega
      simp; omega
    · have hl : (dig m).length = (dig (m / 256)).length + 1 := by rw [dig_step h1]; simp
      by_cases h2 : i < (dig (m / 256)).length
      · have e : (dig m)[i] = (dig (m / 256))[i] := by simp only [dig_step h1]; rw [List.getElem_append_left h2]
        rw [e, ih (m / 256) (by omega) i h2, hl, Nat.div_div_eq_div_mul, ← Nat.pow_succ', show (dig (m / 256)).length + 1 - 1 - i = (dig (m / 256)).length - 1 - i + 1 from by omega]
      · obtain rfl : i = (dig (m / 256)).length := by omega
        have e : (dig m)[(dig (m / 256)).length] = ((m % 256 : Nat) : Int) := by simp only [dig_step h1]; rw [List.getElem_append_right (by omega)]; simp
        rw [e, hl]; simp

theorem shr_pow (m k : Nat) (h : k ≤ 7) : (m : Int).fdiv (2 ^ (min (8 * (k : Int)).toNat 64)) = ((m / 256 ^ k : Nat) : Int) := by
  have e : min (8 * (k : Int)).toNat 64 = 8 * k := by omega
  have e2 : (2 : Int) ^ (8 * k) = ((256 ^ k : Nat) : Int) := by rw [Int.pow_mul]; push_cast; rfl
  rw [e, e2, Int.fdiv_eq_ediv_of_nonneg _ (Int.natCast_nonneg _)]
  omega

def valI (a : Int) (ds : List Int) : Int := ds.foldl (fun a d => a * 256 + d) a

theorem or_add (a b : Int) (ha : 0 ≤ a) (ha' : a < 36028797018963968) (hb : 0 ≤ b) (hb' : b < 256) : IntKind.i64.wrap ((((a * 256) % 18446744073709551616).toNat ||| (b % 18446744073709551616).toNat : Nat) : Int) = a * 256 + b := by
  obtain ⟨p, rfl⟩ : ∃ p : Nat, a = p := ⟨a.toNat, by omega⟩
  obtain ⟨q, rfl⟩ : ∃ q : Nat, b = q := ⟨b.toNat, by omega⟩
  have e1 : (((p : Int) * 256) % 18446744073709551616).toNat = 2 ^ 8 * p := by omega
  have e2 : ((q : Int) % 18446744073709551616).toNat = q := by omega
  rw [e1, e2, ← Nat.two_pow_add_eq_or_of_lt (by omega), wrap_id _ (by omega) (by omega)]
  omega

def capped (n most : Int) (w : Nat) : Int × Nat × Int := if most < n ∧ 0 < n then (0, 0, 4) else (n, w, 0)
/-- The number with which bytes begin, how many bytes it has, what is wrong. -/
def nxt (r : List Int) (most : Int) : Int × Nat × Int :=
  match r with
  | [] => (0, 0, 2)
  | a :: t => if a < 248 then capped a most 1 else if a = 255 then (0, 0, 3) else
    if (t.length : Int) < a - 247 then (0, 0, 2) else
    if valI 0 (t.take (a - 247).toNat) < 248 ∨ ((dig (valI 0 (t.take (a - 247).toNat)).toNat).length : Int) ≠ a - 247 then (0, 0, 3) else capped (valI 0 (t.take (a - 247).toNat)) most (1 + (a - 247).toNat)

theorem valI_bound (ds : List Int) (hd : ∀ d ∈ ds, 0 ≤ d ∧ d ≤ 255) : ∀ a : Int, 0 ≤ a → 0 ≤ valI a ds ∧ valI a ds < (a + 1) * 256 ^ ds.length := by
  induction ds with
  | nil => intro a h; simp [valI]; omega
  | cons d t ih =>
    intro a h
    have := hd d (by simp)
    obtain ⟨h1, h2⟩ := ih (fun d h => hd d (by simp [h])) (a * 256 + d) (by omega)
    refine ⟨h1, ?_⟩
    have h3 : valI a (d :: t) = valI (a * 256 + d) t := rfl
    rw [h3, List.length_cons, Int.pow_succ]
    refine Int.lt_of_lt_of_le h2 ?_
    rw [Int.mul_comm (256 ^ t.length) 256, ← Int.mul_assoc]
    exact Int.mul_le_mul_of_nonneg_right (by omega) (Int.pow_nonneg (by omega))

/-- Bytes in a reader: those from 'lo' on are left. -/
structure InR (x : List Int) (lo n : Nat) : Prop where
  hx : ∀ a ∈ x, 0 ≤ a ∧ a ≤ 255
  hlo : lo + n = x.length
  hn : x.length < 100000

theorem bs0 : bs [] = ⟨⟨[]⟩⟩ := rfl

theorem nxt_ok (r : List Int) (m : Int) (hr : ∀ a ∈ r, 0 ≤ a ∧ a ≤ 255) (h : (nxt r m).2.2 = 0) : 1 ≤ (nxt r m).2.1 ∧ (nxt r m).2.1 ≤ r.length ∧ 0 ≤ (nxt r m).1 ∧ (nxt r m).1 < 72057594037927936 := by
  cases r with
  | nil => simp [nxt] at h
  | cons a t =>
    have ha := hr a (by simp)
    by_cases h1 : a < 248
    · simp only [nxt, if_pos h1, capped] at h ⊢
      split
      · rename_i hc; rw [if_pos hc] at h; simp at h
      · simp; omega
    · by_cases h2 : a = 255
      · simp [nxt, h2] at h
      · by_cases h3 : (t.length : Int) < a - 247
        · simp only [nxt, if_neg h1, if_neg h2, if_pos h3] at h; simp at h
        · have hv0 := valI_bound (t.take (a - 247).toNat) (fun d hd => hr d (by simp [List.mem_of_mem_take hd])) 0 (by omega)
          have hv1 : (256 : Int) ^ (t.take (a - 247).toNat).length ≤ 256 ^ 7 := by
            have : (t.take (a - 247).toNat).length ≤ 7 := by rw [List.length_take]; omega
            exact_mod_cast Nat.pow_le_pow_right (by omega) this
          simp only [nxt, if_neg h1, if_neg h2, if_neg h3] at h ⊢
          generalize valI 0 (t.take (a - 247).toNat) = q at h hv0 ⊢
          split
          · rename_i hc; rw [if_pos hc] at h; simp at h
          · rename_i hc
            rw [if_neg hc] at h
            simp only [capped] at h ⊢
            split
            · rename_i hd; rw [if_pos hd] at h; simp at h
            · simp; omega

/-- A number read. -/
def rdN (r : List Int) (e m : Int) : Int × Nat × Int := if e ≠ 0 then (0, 0, e) else if (nxt r m).2.2 ≠ 0 then (0, 0, (nxt r m).2.2) else ((nxt r m).1, (nxt r m).2.1, 0)
/-- A text read. -/
def rdT (r : List Int) (e m : Int) : List Int × Nat × Int := if e ≠ 0 then ([], 0, e) else if (nxt r m).2.2 ≠ 0 then ([], 0, (nxt r m).2.2) else
  if (r.length : Int) - (nxt r m).2.1 < (nxt r m).1 then ([], 0, 2) else ((r.drop (nxt r m).2.1).take (nxt r m).1.toNat, (nxt r m).2.1 + (nxt r m).1.toNat, 0)

theorem u8_back (a : Int) (h : 0 ≤ a ∧ a ≤ 255) : ((UInt8.ofNat a.toNat).toNat : Int) = a := by
  rw [UInt8.toNat_ofNat']; omega

theorem bs_at (r : List Int) (i : Nat) (hi : i < r.length) (h : 0 ≤ r[i] ∧ r[i] ≤ 255) (h' : i < (bs r).size) : ((bs r)[i].toNat : Int) = r[i] := by
  have h1 := bs_get? r i
  rw [getElem?_pos (bs r) i h', List.getElem?_eq_getElem hi] at h1
  simp only [Option.map_some, Option.some.injEq] at h1
  rw [h1]
  exact u8_back _ h

theorem valI_snoc (a d : Int) (l : List Int) : valI a (l ++ [d]) = valI a l * 256 + d := by simp [valI]

theorem valI_dig (m : Nat) : valI 0 (dig m) = m := by
  induction m using Nat.strongRecOn with
  | ind m ih =>
    by_cases h : m < 256
    · rw [dig_small h]; simp [valI]
    · rw [dig_step h, valI_snoc, ih _ (by omega)]; omega

theorem dig_range (m : Nat) : ∀ d ∈ dig m, 0 ≤ d ∧ d ≤ 255 := by
  induction m using Nat.strongRecOn with
  | ind m ih =>
    by_cases h : m < 256
    · rw [dig_small h]; intro d hd; simp at hd; omega
    · rw [dig_step h]
      intro d hd
      rcases List.mem_append.1 hd with h1 | h1
      · exact ih _ (by omega) d h1
      · simp at h1; omega

theorem numB_range (m : Nat) (h : m < 72057594037927936) : ∀ d ∈ numB m, 0 ≤ d ∧ d ≤ 255 := by
  have := dig_le m h
  unfold numB
  split
  · intro d hd; simp at hd; omega
  · intro d hd
    rcases List.mem_cons.1 hd with h1 | h1
    · omega
    · exact dig_range m d h1

theorem valI_inj : ∀ (l l' : List Int), l.length = l'.length → (∀ d ∈ l, 0 ≤ d ∧ d ≤ 255) → (∀ d ∈ l', 0 ≤ d ∧ d ≤ 255) → ∀ a a' : Int, valI a l = valI a' l' → l = l' ∧ a = a'
  | [], [], _, _, _, a, a', h => ⟨rfl, h⟩
  | [], _ :: _, hl, _, _, _, _, _ => by simp at hl
  | _ :: _, [], hl, _, _, _, _, _ => by simp at hl
  | d :: l, d' :: l', hl, h1, h2, a, a', h => by
    obtain ⟨e1, e2⟩ := valI_inj l l' (by simpa using hl) (fun d hd => h1 d (by simp [hd])) (fun d hd => h2 d (by simp [hd])) (a * 256 + d) (a' * 256 + d') h
    have := h1 d (by simp)
    have := h2 d' (by simp)
    refine ⟨?_, by omega⟩
    rw [e1]; congr 1; omega

/-- What was put is read. -/
theorem nxt_num (m : Nat) (rest : List Int) (k : Int) (h : m < 72057594037927936) (hk : (m : Int) ≤ k) : nxt (numB m ++ rest) k = ((m : Int), (numB m).length, 0) := by
  have hd := dig_le m h
  have hp := dig_pos m
  by_cases h1 : m < 248
  · have h2 : (m : Int) < 248 := by omega
    have h3 : ¬ k < (m : Int) := by omega
    simp [numB, h1, nxt, h2, capped, h3]
  · have e : numB m = (247 + ((dig m).length : Int)) :: dig m := by rw [numB, if_neg h1]
    rw [e, List.cons_append, nxt.eq_def]
    simp only []
    rw [if_neg (by omega), if_neg (by omega), show (247 + ((dig m).length : Int) - 247).toNat = (dig m).length from by omega, show 247 + ((dig m).length : Int) - 247 = ((dig m).length : Int) from by omega, List.take_left, valI_dig, if_neg (by rw [List.length_append]; omega), Int.toNat_natCast, if_neg (by omega), capped, if_neg (by omega)]
    simp; omega

/-- What is read was put. -/
theorem nxt_back (r : List Int) (k : Int) (hr : ∀ a ∈ r, 0 ≤ a ∧ a ≤ 255) (h : (nxt r k).2.2 = 0) : numB (nxt r k).1.toNat = r.take (nxt r k).2.1 := by
  cases r with
  | nil => simp [nxt] at h
  | cons a t =>
    have ha := hr a (by simp)
    by_cases h1 : a < 248
    · simp only [nxt, if_pos h1, capped] at h ⊢
      split
      · rename_i hc; rw [if_pos hc] at h; simp at h
      · simp only [numB]
        rw [if_pos (by omega)]
        simp; omega
    · by_cases h2 : a = 255
      · simp [nxt, h2] at h
      · by_cases h3 : (t.length : Int) < a - 247
        · simp only [nxt, if_neg h1, if_neg h2, if_pos h3] at h; simp at h
        · have hr1 : ∀ d ∈ t.take (a - 247).toNat, 0 ≤ d ∧ d ≤ 255 := fun d hd => hr d (List.mem_cons_of_mem _ (List.mem_of_mem_take hd))
          have hv0 := (valI_bound (t.take (a - 247).toNat) hr1 0 (by omega)).1
          have hl : (t.take (a - 247).toNat).length = (a - 247).toNat := by rw [List.length_take]; omega
          have inj := fun h => (valI_inj (dig (valI 0 (t.take (a - 247).toNat)).toNat) (t.take (a - 247).toNat) h (dig_range _) hr1 0 0 (by rw [valI_dig]; omega)).1
          simp only [nxt, if_neg h1, if_neg h2, if_neg h3] at h ⊢
          generalize hq : valI 0 (t.take (a - 247).toNat) = q at h hv0 inj ⊢
          split
          · rename_i hc; rw [if_pos hc] at h; simp at h
          · rename_i hc
            rw [if_neg hc] at h
            simp only [capped] at h ⊢
            split
            · rename_i hd; rw [if_pos hd] at h; simp at h
            · have e := inj (by omega)
              simp only [numB]
              rw [if_neg (by omega), show 1 + (a - 247).toNat = (a - 247).toNat + 1 from by omega, List.take_succ_cons, ← e]
              congr 1
              omega

/-- What is wrong at the end. -/
def endE (e : Int) (n : Nat) : Int := if e ≠ 0 then e else if 0 < n then 3 else 0

end Go.Proofs.Ytleeafkkgepblaa.Oct
