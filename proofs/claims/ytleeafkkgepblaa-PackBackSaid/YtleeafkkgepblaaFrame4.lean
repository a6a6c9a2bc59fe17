/- Frames: bits turned in one of them. -/
import Derived.Test.YtleeafkkgepblaaFrame
set_option linter.all false
set_option linter.unusedSimpArgs false
set_option maxRecDepth 100000
set_option maxHeartbeats 8000000
namespace Go.Proofs.Ytleeafkkgepblaa.Oct
open Go Go.RowKit Go.Proofs.Ytleeafkkgepblaa.Lift Go.Proofs.Ytleeafkkgepblaa.TPB Go.Proofs.Ytleeafkkgepblaa.Base Go.Proofs.Ytleeafkkgepblaa Go.Proofs.Ytleeafkkgepblaa.CrcC

/-- A frame with some of the bits of t turned, from bit 8 + a on: those below i. -/
structure Turn (F : List Int) (t a i : Nat) (F' : List Int) : Prop where
  len : F'.length = F.length
  hd : F'.take 1 = F.take 1
  rg : ∀ x ∈ F', 0 ≤ x ∧ x ≤ 255
  num : Crc.num F' = Crc.num F ^^^ ((t % 2 ^ i) * 2 ^ (8 + a))

theorem Turn.zero (F : List Int) (t a : Nat) (h : ∀ x ∈ F, 0 ≤ x ∧ x ≤ 255) : Turn F t a 0 F := ⟨rfl, rfl, h, by simp [Nat.mod_one]⟩

theorem Turn.skip {F F' : List Int} {t a i : Nat} (h : Turn F t a i F') (hb : t.testBit i = false) : Turn F t a (i + 1) F' := by
  refine ⟨h.len, h.hd, h.rg, ?_⟩
  rw [h.num, Crc.bits_more, if_neg (by simp [hb])]

theorem Turn.flip {F F' : List Int} {t a i : Nat} (h : Turn F t a i F') (hb : t.testBit i = true) (hj : 1 + (a + i) / 8 < F'.length) : Turn F t a (i + 1) (F'.set (1 + (a + i) / 8) (((F'[1 + (a + i) / 8]).toNat ^^^ 2 ^ ((a + i) % 8) : Nat) : Int)) := by
  have hby : ∀ x ∈ F', Crc.isByte x := fun x hx => ⟨(h.rg x hx).1, by have := (h.rg x hx).2; omega⟩
  refine ⟨by simp [h.len], ?_, ?_, ?_⟩
  · rw [← h.hd, List.take_set_of_le (by omega)]
  · intro x hx
    rcases List.mem_or_eq_of_mem_set hx with h1 | h1
    · exact h.rg x h1
    · subst h1
      have h2 := h.rg _ (List.getElem_mem hj)
      have h3 : (F'[1 + (a + i) / 8]).toNat ^^^ 2 ^ ((a + i) % 8) < 2 ^ 8 := Nat.xor_lt_two_pow (by omega) (Nat.pow_lt_pow_right (by omega) (Nat.mod_lt _ (by omega)))
      omega
  · rw [Crc.num_set _ (Nat.mod_lt _ (by omega)) F' _ hj hby, h.num, Crc.bits_more, if_pos hb, Nat.xor_assoc]
    congr 3
    omega

theorem frame_sealed (p : List Int) : sealed (frameB p) = true := by
  have h := sealed_iff (frameB p) (textB p).length (by rw [frameB_len]; omega)
  rw [← frameB_len, List.take_length] at h
  rw [h]
  have e : (frameB p).take (textB p).length = textB p := by unfold frameB; exact List.take_left' rfl
  rw [e]
  rfl

/-- A frame whose bits were turned is none. -/
theorem cutP_turned (p F' rest : List Int) (t a i : Nat) (hp : p.length < 248) (hpr : ∀ x ∈ p, 0 ≤ x ∧ x ≤ 255) (h : Turn (frameB p) t a i F') (ht : 0 < t % 2 ^ i) (hi : i ≤ 32) : (cutP (F' ++ rest)).2.2 ≠ 0 := by
  have hlt : t % 2 ^ i < 2 ^ 32 := Nat.lt_of_lt_of_le (Nat.mod_lt _ (Nat.two_pow_pos i)) (Nat.pow_le_pow_right (by omega) hi)
  have hfl := frameB_len p
  have htx : textB p = (p.length : Int) :: p := by unfold textB numB; rw [if_pos hp]; rfl
  have htl : (textB p).length = p.length + 1 := by rw [htx]; simp
  have hsf : sealed F' = false := sealed_turned (frameB p) F' h.len (by omega) (frameB_range p (by omega) hpr) h.rg (frame_sealed p) (t % 2 ^ i) (8 + a) ht hlt h.num
  have hF : F' = (p.length : Int) :: F'.drop 1 := by
    have h1 := h.hd
    have h2 : (frameB p).take 1 = [(p.length : Int)] := by unfold frameB; rw [htx]; rfl
    rw [h2] at h1
    conv => lhs; rw [← List.take_append_drop 1 F', h1]
    rfl
  have hl := h.len
  have hnx : nxt (F' ++ rest) 4096 = ((p.length : Int), 1, 0) := by
    rw [hF, List.cons_append, nxt.eq_def]
    simp only []
    rw [if_pos (by omega), capped, if_neg (by omega)]
  unfold cutP rdT
  rw [hnx]
  simp only [ne_eq, not_true_eq_false, if_false, Int.toNat_natCast]
  rw [if_neg (show ¬ (((F' ++ rest).length : Nat) : Int) - ((1 : Nat) : Int) < (p.length : Int) by rw [List.length_append]; omega)]
  simp only [ne_eq, not_true_eq_false, if_false]
  rw [if_neg (show ¬ (F' ++ rest).length < 1 + p.length + 4 by rw [List.length_append]; omega)]
  have e : (F' ++ rest).take (1 + p.length + 4) = F' := List.take_left' (by omega)
  rw [e, if_neg (by simp [hsf])]
  simp

/-- A bit of a number. -/
theorem bit32 (x i : Nat) (hx : x < 4294967296) (hi : i < 32) : IntKind.u32.wrap ↑(((x : Int).fdiv (2 ^ min i IntKind.u32.bits) % 2 ^ IntKind.u32.bits).toNat &&& 1 % 2 ^ IntKind.u32.bits) = if x.testBit i = true then 1 else 0 := by
  have hb : IntKind.u32.bits = 32 := rfl
  have h1 : min i 32 = i := by omega
  have h2 : (x : Int).fdiv (2 ^ i) = ((x / 2 ^ i : Nat) : Int) := by
    rw [Int.fdiv_eq_ediv_of_nonneg _ (by exact Int.le_of_lt (Int.pow_pos (by omega)))]
    simp
  have h3 : x / 2 ^ i ≤ x := Nat.div_le_self _ _
  have h4 : (((x / 2 ^ i : Nat) : Int) % 2 ^ 32).toNat = x / 2 ^ i := by
    generalize x / 2 ^ i = d at h3
    omega
  rw [hb, h1, h2, h4, show 1 % 2 ^ 32 = 1 from rfl, Nat.and_one_is_mod, IntKind.wrap_u32, Nat.testBit_eq_decide_div_mod_eq]
  generalize x / 2 ^ i = d
  by_cases h : d % 2 = 1
  · simp [h]
  · have : d % 2 = 0 := by omega
    simp [this]

theorem shl8 (m : Nat) (h : m < 8) : IntKind.u8.wrap ((2 : Int) ^ min m IntKind.u8.bits) = ((2 ^ m : Nat) : Int) := by
  rw [show IntKind.u8.bits = 8 from rfl, show min m 8 = m by omega, IntKind.wrap_u8]
  have : m = 0 ∨ m = 1 ∨ m = 2 ∨ m = 3 ∨ m = 4 ∨ m = 5 ∨ m = 6 ∨ m = 7 := by omega
  rcases this with rfl | rfl | rfl | rfl | rfl | rfl | rfl | rfl <;> rfl

theorem xor8 (x : Int) (m : Nat) (hx : 0 ≤ x ∧ x ≤ 255) (hm : m < 8) : IntKind.u8.wrap ↑((x % 2 ^ IntKind.u8.bits).toNat ^^^ ((2 : Int) ^ m % 2 ^ IntKind.u8.bits).toNat) = ((x.toNat ^^^ 2 ^ m : Nat) : Int) := by
  have hb : IntKind.u8.bits = 8 := rfl
  have h1 : (x % 2 ^ 8).toNat = x.toNat := by omega
  have h2 : 2 ^ m < 2 ^ 8 := Nat.pow_lt_pow_right (by omega) hm
  have h3 : x.toNat ^^^ 2 ^ m < 2 ^ 8 := Nat.xor_lt_two_pow (by omega) h2
  have h4 : ((2 : Int) ^ m % 2 ^ 8).toNat = 2 ^ m := by
    rw [show (2 : Int) ^ m = ((2 ^ m : Nat) : Int) by simp]
    generalize 2 ^ m = z at *
    omega
  rw [hb, h1, h4, IntKind.wrap_u8]
  omega

end Go.Proofs.Ytleeafkkgepblaa.Oct
