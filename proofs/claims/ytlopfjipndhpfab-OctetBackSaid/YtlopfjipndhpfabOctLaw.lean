/- Numbers and their bytes, there and back. -/
import Derived.Test.YtlopfjipndhpfabOctRead2
set_option linter.unusedVariables false
set_option linter.unusedSimpArgs false
set_option maxRecDepth 100000
namespace Go.Proofs.Ytlopfjipndhpfab.Oct
open Go Go.RowKit Go.Proofs.Ytlopfjipndhpfab.Lift Go.Proofs.Ytlopfjipndhpfab.TM

theorem valI_snoc (a d : Int) (l : List Int) : valI a (l ++ [d]) = valI a l * 256 + d := by simp [valI]

theorem valI_dig (m : Nat) : valI 0 (dig m) = m := by
  induction m using Nat.strongRecOn with
  | ind m ih =>
    by_cases h : m < 256
    · rw [dig_small h]; simp [valI]
    · rw [dig_step h, valI_snoc, ih _ (by omega)]; omega

theorem dig_range (m : Nat) : ∀ d ∈ dig m, 0 ≤ d ∧ d ≤ 255 := by
  induction m using Nat.strongRecOn with
  | ind m ih =>
    by_cases h : m < 256
    · rw [dig_small h]; intro d hd; simp at hd; omega
    · rw [dig_step h]
      intro d hd
      rcases List.mem_append.1 hd with h1 | h1
      · exact ih _ (by omega) d h1
      · simp at h1; omega

theorem numB_range (m : Nat) (h : m < 72057594037927936) : ∀ d ∈ numB m, 0 ≤ d ∧ d ≤ 255 := by
  have := dig_le m h
  unfold numB
  split
  · intro d hd; simp at hd; omega
  · intro d hd
    rcases List.mem_cons.1 hd with h1 | h1
    · omega
    · exact dig_range m d h1

theorem valI_inj : ∀ (l l' : List Int), l.length = l'.length → (∀ d ∈ l, 0 ≤ d ∧ d ≤ 255) → (∀ d ∈ l', 0 ≤ d ∧ d ≤ 255) → ∀ a a' : Int, valI a l = valI a' l' → l = l' ∧ a = a'
  | [], [], _, _, _, a, a', h => ⟨rfl, h⟩
  | [], _ :: _, hl, _, _, _, _, _ => by simp at hl
  | _ :: _, [], hl, _, _, _, _, _ => by simp at hl
  | d :: l, d' :: l', hl, h1, h2, a, a', h => by
    obtain ⟨e1, e2⟩ := valI_inj l l' (by simpa using hl) (fun d hd => h1 d (by simp [hd])) (fun d hd => h2 d (by simp [hd])) (a * 256 + d) (a' * 256 + d') h
    have := h1 d (by simp)
    have := h2 d' (by simp)
    refine ⟨?_, by omega⟩
    rw [e1]; congr 1; omega

/-- What was put is read. -/
theorem nxt_num (m : Nat) (rest : List Int) (k : Int) (h : m < 72057594037927936) (hk : (m : Int) ≤ k) : nxt (numB m ++ rest) k = ((m : Int), (numB m).length, 0) := by
  have hd := dig_le m h
  have hp := dig_pos m
  by_cases h1 : m < 248
  · have h2 : (m : Int) < 248 := by omega
    have h3 : ¬ k < (m : Int) := by omega
    simp [numB, h1, nxt, h2, capped, h3]
  · have e : numB m = (247 + ((dig m).length : Int)) :: dig m := by rw [numB, if_neg h1]
    rw [e, List.cons_append, nxt.eq_def]
    simp only []
    rw [if_neg (by omega), if_neg (by omega), show (247 + ((dig m).length : Int) - 247).toNat = (dig m).length from by omega, show 247 + ((dig m).length : Int) - 247 = ((dig m).length : Int) from by omega, List.take_left, valI_dig, if_neg (by rw [List.length_append]; omega), Int.toNat_natCast, if_neg (by omega), capped, if_neg (by omega)]
    simp; omega

/-- What is read was put. -/
theorem nxt_back (r : List Int) (k : Int) (hr : ∀ a ∈ r, 0 ≤ a ∧ a ≤ 255) (h : (nxt r k).2.2 = 0) : numB (nxt r k).1.toNat = r.take (nxt r k).2.1 := by
  cases r with
  | nil => simp [nxt] at h
  | cons a t =>
    have ha := hr a (by simp)
    by_cases h1 : a < 248
    · simp only [nxt, if_pos h1, capped] at h ⊢
      split
      · rename_i hc; rw [if_pos hc] at h; simp at h
      · simp only [numB]
        rw [if_pos (by omega)]
        simp; omega
    · by_cases h2 : a = 255
      · simp [nxt, h2] at h
      · by_cases h3 : (t.length : Int) < a - 247
        · simp only [nxt, if_neg h1, if_neg h2, if_pos h3] at h; simp at h
        · have hr1 : ∀ d ∈ t.take (a - 247).toNat, 0 ≤ d ∧ d ≤ 255 := fun d hd => hr d (List.mem_cons_of_mem _ (List.mem_of_mem_take hd))
          have hv0 := (valI_bound (t.take (a - 247).toNat) hr1 0 (by omega)).1
          have hl : (t.take (a - 247).toNat).length = (a - 247).toNat := by rw [List.length_take]; omega
          have inj := fun h => (valI_inj (dig (valI 0 (t.take (a - 247).toNat)).toNat) (t.take (a - 247).toNat) h (dig_range _) hr1 0 0 (by rw [valI_dig]; omega)).1
          simp only [nxt, if_neg h1, if_neg h2, if_neg h3] at h ⊢
          generalize hq : valI 0 (t.take (a - 247).toNat) = q at h hv0 inj ⊢
          split
          · rename_i hc; rw [if_pos hc] at h; simp at h
          · rename_i hc
            rw [if_neg hc] at h
            simp only [capped] at h ⊢
            split
            · rename_i hd; rw [if_pos hd] at h; simp at h
            · have e := inj (by omega)
              simp only [numB]
              rw [if_neg (by omega), show 1 + (a - 247).toNat = (a - 247).toNat + 1 from by omega, List.take_succ_cons, ← e]
              congr 1
              omega
end Go.Proofs.Ytlopfjipndhpfab.Oct
