/- Sums of bytes: a register of 32 bits; sealed bytes; bursts. No program in sight. -/
import Derived.Test.YtleeafkkgepblaaLiftS
set_option linter.all false
set_option linter.unusedSimpArgs false
set_option maxRecDepth 100000
namespace Go.Proofs.Ytleeafkkgepblaa.Crc
open Go

/-- a register as the number that it is -/
def I (s : BitVec 32) : Int := (s.toNat : Int)
def poly : BitVec 32 := 3988292384#32
def ones : BitVec 32 := 4294967295#32
/-- one bit -/
def Z (s : BitVec 32) : BitVec 32 := if s &&& 1#32 = 1#32 then (s >>> 1) ^^^ poly else s >>> 1
def Zn : Nat → BitVec 32 → BitVec 32
  | 0, s => s
  | n + 1, s => Zn n (Z s)
def B (c : Int) : BitVec 32 := BitVec.ofInt 32 c
/-- one byte -/
def eat (s : BitVec 32) (c : Int) : BitVec 32 := Zn 8 (s ^^^ B c)
def run (s : BitVec 32) (l : List Int) : BitVec 32 := l.foldl eat s
def crc (l : List Int) : BitVec 32 := ones ^^^ run ones l
def isByte (x : Int) : Prop := 0 ≤ x ∧ x < 256

theorem I_lo (s : BitVec 32) : 0 ≤ I s := Int.natCast_nonneg _
theorem I_hi (s : BitVec 32) : I s < 4294967296 := by have := s.isLt; unfold I; omega
theorem B_I (s : BitVec 32) : B (I s) = s := by unfold B I; simp
theorem I_B {c : Int} (h0 : 0 ≤ c) (h1 : c < 4294967296) : I (B c) = c := by
  unfold B I
  rw [BitVec.toNat_ofInt]
  omega
theorem I_inj {s t : BitVec 32} (h : I s = I t) : s = t := by rw [← B_I s, h, B_I]

theorem u32_in (n : Int) (h0 : 0 ≤ n) (h1 : n < 4294967296) : Go.IntKind.u32.wrap n = n := by rw [IntKind.wrap_u32]; omega

theorem I_half (s : BitVec 32) : I s / (2 : Int) = I (s >>> (1 : Nat)) := by
  unfold I
  rw [BitVec.toNat_ushiftRight, Nat.shiftRight_eq_div_pow]
  omega
theorem I_odd (s : BitVec 32) : I (s &&& 1#32) = I s % 2 := by
  unfold I
  rw [BitVec.toNat_and]
  show ((s.toNat &&& 1 : Nat) : Int) = _
  rw [Nat.and_one_is_mod]
  omega
theorem odd_iff (s : BitVec 32) : s &&& 1#32 = 1#32 ↔ I s % 2 = 1 := by
  rw [← I_odd]
  constructor
  · intro h; rw [h]; rfl
  · intro h; exact I_inj h
theorem poly_I : I poly = 3988292384 := by decide
theorem ones_I : I ones = 4294967295 := by decide
theorem one_I : I 1#32 = 1 := by decide

theorem xor_odd (x c : BitVec 32) : I (x ^^^ c) % 2 = 1 ↔ ¬ I x % 2 = I c % 2 := by
  rw [← I_odd, ← I_odd, ← I_odd]
  have h : ∀ a b : BitVec 32, (a ^^^ b) &&& 1#32 = (a &&& 1#32) ^^^ (b &&& 1#32) := by
    intro a b
    ext i hi
    simp only [BitVec.getElem_and, BitVec.getElem_xor]
    cases a[i] <;> cases b[i] <;> cases (1#32)[i] <;> rfl
  rw [h]
  have hx := I_odd x
  have hc := I_odd c
  have dx : x &&& 1#32 = 0#32 ∨ x &&& 1#32 = 1#32 := by
    have : I x % 2 = 0 ∨ I x % 2 = 1 := by omega
    rcases this with e | e
    · left; exact I_inj (by rw [hx, e]; rfl)
    · right; exact I_inj (by rw [hx, e]; rfl)
  have dc : c &&& 1#32 = 0#32 ∨ c &&& 1#32 = 1#32 := by
    have : I c % 2 = 0 ∨ I c % 2 = 1 := by omega
    rcases this with e | e
    · left; exact I_inj (by rw [hc, e]; rfl)
    · right; exact I_inj (by rw [hc, e]; rfl)
  rcases dx with e | e <;> rcases dc with f | f <;> rw [e, f] <;> decide

theorem xor_shift (x c : BitVec 32) : (x ^^^ c) >>> 1 = (x >>> 1) ^^^ (c >>> 1) := by
  ext i hi
  simp

theorem Z_xor_odd {x c : BitVec 32} (h : ¬ I x % 2 = I c % 2) : Z (x ^^^ c) = ((x >>> 1) ^^^ poly) ^^^ (c >>> 1) := by
  unfold Z
  rw [if_pos ((odd_iff _).2 ((xor_odd x c).2 h)), xor_shift, BitVec.xor_assoc, BitVec.xor_assoc, BitVec.xor_comm poly]
theorem Z_xor_even {x c : BitVec 32} (h : I x % 2 = I c % 2) : Z (x ^^^ c) = (x >>> 1) ^^^ (c >>> 1) := by
  unfold Z
  rw [if_neg (fun e => (xor_odd x c).1 ((odd_iff _).1 e) h), xor_shift]

theorem ones_sub (s : BitVec 32) : (4294967295 - I s) % 4294967296 = I (ones ^^^ s) := by
  have h : ones ^^^ s = ~~~ s := by
    have : ones = BitVec.allOnes 32 := by decide
    rw [this, BitVec.allOnes_xor]
  rw [h]
  have h2 := I_lo s
  have h3 := I_hi s
  unfold I at *
  rw [BitVec.toNat_not]
  omega

theorem run_append (s : BitVec 32) (a b : List Int) : run s (a ++ b) = run (run s a) b := List.foldl_append
theorem crc_append (a b : List Int) : ones ^^^ run (ones ^^^ crc a) b = crc (a ++ b) := by
  unfold crc
  rw [run_append, ← BitVec.xor_assoc, BitVec.xor_self, BitVec.zero_xor]

/-- the i-th byte of a sum -/
def byteAt (s : BitVec 32) (i : Nat) : Int := I s / 2 ^ (8 * i) % 256
def four (s : BitVec 32) : List Int := [byteAt s 0, byteAt s 1, byteAt s 2, byteAt s 3]
theorem byteAt_byte (s : BitVec 32) (i : Nat) : isByte (byteAt s i) := ⟨Int.emod_nonneg _ (by decide), Int.emod_lt_of_pos _ (by decide)⟩
theorem four_byte (s : BitVec 32) : ∀ x ∈ four s, isByte x := by
  intro x hx
  unfold four at hx
  simp only [List.mem_cons, List.not_mem_nil, or_false] at hx
  rcases hx with h | h | h | h <;> rw [h] <;> exact byteAt_byte _ _

/-- one bit, of a number as long as one likes -/
def zb (v : Nat) : Nat := if v % 2 = 1 then (v / 2) ^^^ 3988292384 else v / 2
def zbn : Nat → Nat → Nat
  | 0, v => v
  | n + 1, v => zbn n (zb v)
theorem zbn_add (a b v : Nat) : zbn (a + b) v = zbn b (zbn a v) := by
  induction a generalizing v with
  | zero => rw [Nat.zero_add]; rfl
  | succ a ih => rw [Nat.succ_add]; exact ih (zb v)

theorem xor_half (a b : Nat) : (a ^^^ b) / 2 = (a / 2) ^^^ (b / 2) := by
  apply Nat.eq_of_testBit_eq
  intro i
  rw [Nat.testBit_div_two, Nat.testBit_xor, Nat.testBit_xor, Nat.testBit_div_two, Nat.testBit_div_two]
theorem xor_mod2 (a b : Nat) : (a ^^^ b) % 2 = (a + b) % 2 := by
  have h : ∀ x : Nat, x % 2 = (x.testBit 0).toNat := by
    intro x
    rw [Nat.testBit_zero]
    by_cases c : x % 2 = 1
    · simp [c]
    · have : x % 2 = 0 := by omega
      simp [this]
  rw [h (a ^^^ b), Nat.testBit_xor]
  have ha := h a
  have hb := h b
  cases ea : a.testBit 0 <;> cases eb : b.testBit 0 <;> simp [ea, eb] at * <;> omega

theorem zb_xor (a b : Nat) : zb (a ^^^ b) = zb a ^^^ zb b := by
  have hm := xor_mod2 a b
  unfold zb
  rw [xor_half]
  by_cases ha : a % 2 = 1 <;> by_cases hb : b % 2 = 1
  · rw [if_neg (by omega), if_pos ha, if_pos hb]
    apply Nat.eq_of_testBit_eq
    intro i
    simp only [Nat.testBit_xor]
    cases (a / 2).testBit i <;> cases (b / 2).testBit i <;> cases (3988292384).testBit i <;> rfl
  · rw [if_pos (by omega), if_pos ha, if_neg hb]
    apply Nat.eq_of_testBit_eq
    intro i
    simp only [Nat.testBit_xor]
    cases (a / 2).testBit i <;> cases (b / 2).testBit i <;> cases (3988292384).testBit i <;> rfl
  · rw [if_pos (by omega), if_neg ha, if_pos hb]
    apply Nat.eq_of_testBit_eq
    intro i
    simp only [Nat.testBit_xor]
    cases (a / 2).testBit i <;> cases (b / 2).testBit i <;> cases (3988292384).testBit i <;> rfl
  · rw [if_neg (by omega), if_neg ha, if_neg hb]
theorem zbn_xor (n : Nat) : ∀ a b, zbn n (a ^^^ b) = zbn n a ^^^ zbn n b := by
  induction n with
  | zero => intro a b; rfl
  | succ n ih => intro a b; simp only [zbn]; rw [zb_xor, ih]
theorem zb_even (r : Nat) : zb (2 * r) = r := by unfold zb; rw [if_neg (by omega)]; omega
theorem zbn_shift (n : Nat) : ∀ r, zbn n (r * 2 ^ n) = r := by
  induction n with
  | zero => intro r; simp [zbn]
  | succ n ih =>
    intro r
    simp only [zbn]
    rw [show r * 2 ^ (n + 1) = 2 * (r * 2 ^ n) from by rw [Nat.pow_succ]; rw [← Nat.mul_assoc, Nat.mul_comm], zb_even, ih]

theorem zb_small (v : Nat) (h : v < 2 ^ 32) : zb v < 2 ^ 32 := by
  unfold zb
  split
  · exact Nat.xor_lt_two_pow (by omega) (by decide)
  · omega
theorem zb_pos (v : Nat) (h0 : 0 < v) (h : v < 2 ^ 32) : 0 < zb v := by
  unfold zb
  split
  · have hb : ((v / 2) ^^^ 3988292384).testBit 31 = true := by
      rw [Nat.testBit_xor, Nat.testBit_lt_two_pow (show v / 2 < 2 ^ 31 by omega)]
      decide
    apply Nat.pos_of_ne_zero
    intro e
    rw [e] at hb
    simp at hb
  · omega
theorem zbn_pos (n : Nat) : ∀ v, 0 < v → v < 2 ^ 32 → 0 < zbn n v := by
  induction n with
  | zero => intro v h _; exact h
  | succ n ih => intro v h0 h; exact ih _ (zb_pos v h0 h) (zb_small v h)
/-- what a burst leaves -/
theorem burst (t at_ n : Nat) (ht : 0 < t) (ht' : t < 2 ^ 32) (h : at_ ≤ n) : 0 < zbn n (t * 2 ^ at_) := by
  obtain ⟨m, rfl⟩ : ∃ m, n = at_ + m := ⟨n - at_, by omega⟩
  rw [zbn_add, zbn_shift]
  exact zbn_pos m t ht ht'

theorem zb_Z (s : BitVec 32) : zb s.toNat = (Z s).toNat := by
  have ho := odd_iff s
  unfold zb Z
  by_cases h : s.toNat % 2 = 1
  · rw [if_pos h, if_pos (ho.2 (by unfold I; omega)), BitVec.toNat_xor, BitVec.toNat_ushiftRight, Nat.shiftRight_eq_div_pow]
    rfl
  · rw [if_neg h, if_neg (fun x => h (by have := ho.1 x; unfold I at this; omega)), BitVec.toNat_ushiftRight, Nat.shiftRight_eq_div_pow]
theorem zbn_Z (n : Nat) : ∀ s : BitVec 32, zbn n s.toNat = (Zn n s).toNat := by
  induction n with
  | zero => intro s; rfl
  | succ n ih => intro s; simp only [zbn, Zn]; rw [zb_Z, ih]

/-- bytes as one number, the first one lowest -/
def num : List Int → Nat
  | [] => 0
  | c :: r => c.toNat ^^^ (num r * 256)
theorem disjoint (c r : Nat) (hc : c < 256) : c ^^^ (r * 256) = c + r * 256 := by
  have := Nat.two_pow_add_eq_or_of_lt (i := 8) (b := c) (by simpa using hc) r
  rw [show r * 256 = 2 ^ 8 * r from by omega, Nat.add_comm c, this]
  apply Nat.eq_of_testBit_eq
  intro i
  rw [Nat.testBit_xor, Nat.testBit_or]
  by_cases h : i < 8
  · have : (2 ^ 8 * r).testBit i = false := by rw [Nat.testBit_two_pow_mul]; simp; omega
    rw [this]; simp
  · have : c.testBit i = false := Nat.testBit_lt_two_pow (Nat.lt_of_lt_of_le hc (by
      have := Nat.pow_le_pow_right (n := 2) (by decide) (show 8 ≤ i by omega)
      simpa using this))
    rw [this]; simp

theorem eat_step (s : BitVec 32) (c : Int) (hc : isByte c) (r : Nat) : zbn 8 (s.toNat ^^^ (c.toNat ^^^ (r * 256))) = (eat s c).toNat ^^^ r := by
  rw [← Nat.xor_assoc, zbn_xor, zbn_shift 8 r]
  congr 1
  have e : s.toNat ^^^ c.toNat = (s ^^^ B c).toNat := by
    rw [BitVec.toNat_xor]
    congr 1
    have := I_B hc.1 (show c < 4294967296 by have := hc.2; omega)
    unfold I at this
    omega
  rw [e, zbn_Z]
  rfl
/-- the bytes go through the register, and the rest stays behind it -/
theorem through (rest : List Int) : ∀ (l : List Int) (s : BitVec 32), (∀ x ∈ l, isByte x) → zbn (8 * l.length) (s.toNat ^^^ num (l ++ rest)) = (run s l).toNat ^^^ num rest
  | [], s, _ => rfl
  | c :: l, s, h => by
    rw [List.length_cons, show 8 * (l.length + 1) = 8 + 8 * l.length from by omega, zbn_add, List.cons_append]
    simp only [num]
    rw [eat_step s c (h c (by simp))]
    exact through rest l (eat s c) (fun x hx => h x (by simp [hx]))

theorem num_four (s : BitVec 32) : num (four s) = s.toNat := by
  have b : ∀ i, (byteAt s i).toNat < 256 := fun i => by have := byteAt_byte s i; have h1 := this.1; have h2 := this.2; omega
  have h0 : (byteAt s 0).toNat = s.toNat % 256 := by unfold byteAt I; simp; omega
  have h1 : (byteAt s 1).toNat = s.toNat / 256 % 256 := by unfold byteAt I; rw [show ((2 : Int) ^ (8 * 1)) = 256 from by decide]; omega
  have h2 : (byteAt s 2).toNat = s.toNat / 65536 % 256 := by unfold byteAt I; rw [show ((2 : Int) ^ (8 * 2)) = 65536 from by decide]; omega
  have h3 : (byteAt s 3).toNat = s.toNat / 16777216 % 256 := by unfold byteAt I; rw [show ((2 : Int) ^ (8 * 3)) = 16777216 from by decide]; omega
  have hs := s.isLt
  simp only [four, num]
  rw [disjoint _ _ (b 3), disjoint _ _ (b 2), disjoint _ _ (b 1), disjoint _ _ (b 0), h0, h1, h2, h3]
  omega

/-- sealed bytes leave the register at ones -/
theorem sealed_ones (l : List Int) (hl : 4 ≤ l.length) (hb : ∀ x ∈ l, isByte x) (h : l.drop (l.length - 4) = four (crc (l.take (l.length - 4)))) : zbn (8 * (l.length - 4)) (ones.toNat ^^^ num l) = ones.toNat := by
  have e : l = l.take (l.length - 4) ++ l.drop (l.length - 4) := (List.take_append_drop _ _).symm
  have ht : (l.take (l.length - 4)).length = l.length - 4 := by rw [List.length_take]; omega
  have k := through (l.drop (l.length - 4)) (l.take (l.length - 4)) ones (fun x hx => hb x (List.mem_of_mem_take hx))
  rw [ht, ← e] at k
  rw [k, h, num_four]
  unfold crc
  rw [BitVec.toNat_xor, ← Nat.xor_assoc, Nat.xor_comm (run ones _).toNat, Nat.xor_assoc, Nat.xor_self, Nat.xor_zero]

/-- one bit turned -/
theorem num_set (m : Nat) (hm : m < 8) : ∀ (l : List Int) (j : Nat) (h : j < l.length), (∀ x ∈ l, isByte x) → num (l.set j ((l[j].toNat ^^^ 2 ^ m : Nat) : Int)) = num l ^^^ 2 ^ (8 * j + m)
  | [], j, h, _ => absurd h (Nat.not_lt_zero j)
  | c :: l, 0, _, _ => by
    simp only [List.set_cons_zero, num, List.getElem_cons_zero, Int.toNat_natCast, Nat.mul_zero, Nat.zero_add]
    rw [Nat.xor_assoc, Nat.xor_comm (2 ^ m), ← Nat.xor_assoc]
  | c :: l, j + 1, h, hb => by
    have ih := num_set m hm l j (by simpa using h) (fun x hx => hb x (by simp [hx]))
    simp only [List.set_cons_succ, num, List.getElem_cons_succ]
    rw [ih, show (num l ^^^ 2 ^ (8 * j + m)) * 256 = (num l * 256) ^^^ 2 ^ (8 * (j + 1) + m) from ?_, ← Nat.xor_assoc]
    have := Nat.shiftLeft_xor_distrib (a := num l) (b := 2 ^ (8 * j + m)) (i := 8)
    rw [Nat.shiftLeft_eq, Nat.shiftLeft_eq, Nat.shiftLeft_eq] at this
    rw [show (256 : Nat) = 2 ^ 8 from rfl, this, ← Nat.pow_add, show 8 * j + m + 8 = 8 * (j + 1) + m from by omega]

theorem mod_succ_bit (t i : Nat) : t % 2 ^ (i + 1) = t % 2 ^ i + 2 ^ i * (t.testBit i).toNat := by
  rw [Nat.pow_succ, Nat.mod_mul, Nat.testBit_eq_decide_div_mod_eq]
  congr 2
  by_cases h : t / 2 ^ i % 2 = 1
  · simp [h]
  · have : t / 2 ^ i % 2 = 0 := by omega
    simp [this]
/-- the bits of a burst, one more -/
theorem bits_more (t at_ i : Nat) : (t % 2 ^ (i + 1)) * 2 ^ at_ = if t.testBit i = true then ((t % 2 ^ i) * 2 ^ at_) ^^^ 2 ^ (at_ + i) else (t % 2 ^ i) * 2 ^ at_ := by
  rw [mod_succ_bit]
  by_cases h : t.testBit i = true
  · rw [if_pos h, h]
    simp only [Bool.toNat_true, Nat.mul_one]
    have hlt : t % 2 ^ i < 2 ^ i := Nat.mod_lt _ (Nat.two_pow_pos i)
    have e : t % 2 ^ i + 2 ^ i = (t % 2 ^ i) ^^^ 2 ^ i := by
      have h1 := Nat.two_pow_add_eq_or_of_lt hlt 1
      rw [Nat.mul_one] at h1
      rw [Nat.add_comm, h1]
      apply Nat.eq_of_testBit_eq
      intro j
      rw [Nat.testBit_xor, Nat.testBit_or, Nat.testBit_two_pow]
      by_cases hj : i = j
      · subst hj
        rw [Nat.testBit_lt_two_pow hlt]
        simp
      · simp [hj]
    have d := Nat.shiftLeft_xor_distrib (a := t % 2 ^ i) (b := 2 ^ i) (i := at_)
    rw [Nat.shiftLeft_eq, Nat.shiftLeft_eq, Nat.shiftLeft_eq] at d
    rw [e, d, ← Nat.pow_add, Nat.add_comm i]
  · rw [if_neg h]
    have : t.testBit i = false := by simpa using h
    rw [this]
    simp

end Go.Proofs.Ytleeafkkgepblaa.Crc
