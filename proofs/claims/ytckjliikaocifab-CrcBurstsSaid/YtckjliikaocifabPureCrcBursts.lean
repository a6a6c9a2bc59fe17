/- If at least one bit of sealed bytes is turned, and all that are turned lie within 32 in a row, Open refuses them; of at most 1,000 bytes; no other condition. -/
import Derived.Test.YtckjliikaocifabGCrcbx3
import Derived.Test.YtckjliikaocifabBurst
namespace Go.Proofs.Ytckjliikaocifab.Pure
open Go.RowKit Go.Proofs.Ytckjliikaocifab.GCrcb Go.Proofs.Ytckjliikaocifab.CrcBaseb Go.Proofs.YtckjliikaocifabW.PrintWords Go.Proofs.YtckjliikaocifabW.PrintLast Go.Proofs.YtckjliikaocifabW.PrintMore

theorem u64_in (n : Int) (h0 : 0 ≤ n) (h1 : n < 18446744073709551616) : IntKind.u64.wrap n = n := by
  simp [IntKind.wrap, IntKind.bits, IntKind.signed]
  omega
theorem and_one (v : Int) (h0 : 0 ≤ v) (h1 : v < 4294967296) : Go.bits .and .u32 v 1 = v % 2 := by
  have h := bits_and (B v) 1#32
  rw [I_B h0 h1, I_odd, I_B h0 h1] at h
  exact h
theorem xor8 (a b : Int) (ha : isByte a) (hb : isByte b) : Go.bits .xor .u8 a b = ((a.toNat ^^^ b.toNat : Nat) : Int) := by
  obtain ⟨a0, a1⟩ := ha
  obtain ⟨b0, b1⟩ := hb
  obtain ⟨x, rfl⟩ := Int.eq_ofNat_of_zero_le a0
  obtain ⟨y, rfl⟩ := Int.eq_ofNat_of_zero_le b0
  have hx : x < 2 ^ 8 := by omega
  have hy : y < 2 ^ 8 := by omega
  have hlt := Nat.xor_lt_two_pow hx hy
  have e : (BitVec.ofNat 8 x ^^^ BitVec.ofNat 8 y).toNat = x ^^^ y := by
    rw [BitVec.toNat_xor, BitVec.toNat_ofNat, BitVec.toNat_ofNat, Nat.mod_eq_of_lt hx, Nat.mod_eq_of_lt hy]
  unfold Go.bits
  simp only [Int.toNat_natCast, IntKind.bits, BitVec.ofInt_natCast]
  have k : IntKind.u8.wrap (((BitVec.ofNat 8 x ^^^ BitVec.ofNat 8 y).toNat : Nat) : Int) = ((x ^^^ y : Nat) : Int) := by
    rw [e, IntKind.wrap_u8]
    omega
  exact k
theorem xor_byte (a : Int) (ha : isByte a) (m : Nat) (hm : m < 8) : isByte ((a.toNat ^^^ 2 ^ m : Nat) : Int) := by
  obtain ⟨a0, a1⟩ := ha
  have h2 : 2 ^ m < 2 ^ 8 := Nat.pow_lt_pow_right (by decide) hm
  have := Nat.xor_lt_two_pow (show a.toNat < 2 ^ 8 by omega) h2
  exact ⟨by omega, by omega⟩
theorem shl_one (m : Nat) (hm : m < 8) : shl .u8 1 (m : Int) = ((2 ^ m : Nat) : Int) := by
  have : m = 0 ∨ m = 1 ∨ m = 2 ∨ m = 3 ∨ m = 4 ∨ m = 5 ∨ m = 6 ∨ m = 7 := by omega
  rcases this with rfl | rfl | rfl | rfl | rfl | rfl | rfl | rfl <;> decide +kernel

theorem bit_of (t i : Nat) (ht : t < 4294967296) (hi : i < 32) : (Go.bits .and .u32 (shr .u32 (t : Int) (i : Int)) 1 = 1) ↔ t.testBit i = true := by
  have e : shr .u32 (t : Int) (i : Int) = ((t / 2 ^ i : Nat) : Int) := by
    unfold shr
    rw [Int.toNat_natCast, Nat.min_eq_left (show i ≤ IntKind.u32.bits from by show i ≤ 32; omega)]
    simp
  have hq : t / 2 ^ i < 4294967296 := Nat.lt_of_le_of_lt (Nat.div_le_self _ _) ht
  rw [e, Nat.testBit_eq_decide_div_mod_eq, decide_eq_true_iff]
  generalize t / 2 ^ i = q at hq
  rw [and_one _ (by omega) (by omega)]
  omega

/-- the bits of a burst that have been turned -/
def tw (t p i : Nat) : Nat := (t % 2 ^ i) * 2 ^ p
theorem tw_more (t p i : Nat) : tw t p (i + 1) = if t.testBit i = true then tw t p i ^^^ 2 ^ (p + i) else tw t p i := bits_more t p i
theorem tw_0 (t p : Nat) : tw t p 0 = 0 := by unfold tw; rw [Nat.pow_zero, Nat.mod_one, Nat.zero_mul]
theorem tw_all (t p : Nat) (h : t < 4294967296) : tw t p 32 = t * 2 ^ p := by unfold tw; rw [Nat.mod_eq_of_lt (by simpa using h)]

theorem arith (p i n len : Nat) (hi : i < 32) (hp : p ≤ 8 * n) (hl : len = n + 4) (hn : n ≤ 1000) :
    wrap64 ((p : Int) + i) = ((p + i : Nat) : Int) ∧ wrap64 (Int.tdiv ((p + i : Nat) : Int) 8) = (((p + i) / 8 : Nat) : Int) ∧ IntKind.u64.wrap (Int.tmod ((p + i : Nat) : Int) 8) = (((p + i) % 8 : Nat) : Int) ∧
      (p + i) / 8 < len ∧ 8 * ((p + i) / 8) + (p + i) % 8 = p + i ∧ IntKind.u64.wrap (i : Int) = (i : Int) ∧ wrap64 ((i : Int) + 1) = ((i + 1 : Nat) : Int) ∧ (i : Int) < 32 := by
  refine ⟨?_, ?_, ?_, by omega, by omega, u64_in _ (by omega) (by omega), ?_, by omega⟩
  · have h := w64 (x := (p : Int) + i) (by omega) (by omega)
    omega
  · rw [Int.tdiv_eq_ediv_of_nonneg (by omega)]
    have h := w64 (x := ((p + i : Nat) : Int) / 8) (by omega) (by omega)
    omega
  · rw [Int.tmod_eq_emod_of_nonneg (by omega)]
    have h := u64_in (((p + i : Nat) : Int) % 8) (by omega) (by omega)
    omega
  · have h := w64 (x := (i : Int) + 1) (by omega) (by omega)
    omega

/-- turned bytes are refused -/
theorem refused (x y : List Int) (t p n : Nat) (hx : x.length = n + 4) (hy : y.length = n + 4) (bx : ∀ c ∈ x, isByte c) (by_ : ∀ c ∈ y, isByte c) (sx : x.drop n = four (crc (x.take n))) (ht : 0 < t) (ht' : t < 4294967296) (hp : p ≤ 8 * n)
    (hn : num y = num x ^^^ (t * 2 ^ p)) : opened y = ([], false) := by
  have e : x.length - 4 = n := by omega
  have e' : y.length - 4 = n := by omega
  have h1 := sealed_ones x (by omega) bx (by rw [e]; exact sx)
  rw [e] at h1
  unfold opened
  rw [if_neg (by omega), e']
  by_cases c : y.drop n = four (crc (y.take n))
  · exfalso
    have h2 := sealed_ones y (by omega) by_ (by rw [e']; exact c)
    rw [e', hn, ← Nat.xor_assoc, zbn_xor, h1] at h2
    have h3 := burst t p (8 * n) ht (by simpa using ht') hp
    have h4 : zbn (8 * n) (t * 2 ^ p) = 0 := by
      have h5 : ones.toNat ^^^ (ones.toNat ^^^ zbn (8 * n) (t * 2 ^ p)) = ones.toNat ^^^ ones.toNat := by rw [h2]
      rwa [← Nat.xor_assoc, Nat.xor_self, Nat.zero_xor] at h5
    rw [h4] at h3
    exact Nat.lt_irrefl 0 h3
  · rw [if_neg c]

theorem flips (x : List Int) (t p n : Nat) (hx : x.length = n + 4) (hn : n ≤ 1000) (bx : ∀ c ∈ x, isByte c) (sx : x.drop n = four (crc (x.take n))) (ht : 0 < t) (ht' : t < 4294967296) (hp : p ≤ 8 * n) :
    ∀ (d i : Nat) (y : List Int), i + d = 32 → y.length = n + 4 → (∀ c ∈ y, isByte c) → num y = num x ^^^ tw t p i → Ev (fun k => siskinlaw02_CrcBursts.l0 k (p : Int) (t : Int) y (i : Int)) true := by
  intro d
  induction d with
  | zero =>
    intro i y hi hy by_ hny
    obtain rfl : i = 32 := hi
    rw [tw_all t p ht'] at hny
    have ho := open_ev y (by omega) by_
    rw [refused x y t p n hx hy bx by_ sx ht ht' hp hny] at ho
    refine Ev.step (f := fun k => (crc_Open.f k y).bind fun bt180 => (if bt180.2 = true then (some false) else (if (bt180.1.length : Int) = 0 then ((siskinlaw02_works.f k).bind fun t184 => (some t184)) else (some false)))) (fun k => ?_) (Ev.bind ho ?_)
    · simp only [siskinlaw02_CrcBursts.l0]
      rw [if_neg (by decide)]
    · simp only [Bool.false_eq_true, if_false, List.length_nil, Int.natCast_zero, if_true]
      exact Ev.bind works_f (Ev.now true)
  | succ d ih =>
    intro i y hi hy by_ hny
    have hi32 : i < 32 := by clear hny; omega
    obtain ⟨hq, hd, hmo, hj, hsum, hw, hw1, hlt⟩ := arith p i n y.length hi32 hp hy hn
    have hb := bit_of t i ht' hi32
    have hm := tw_more t p i
    have hid : i + 1 + d = 32 := by rw [Nat.add_assoc, Nat.add_comm 1 d]; exact hi
    by_cases c : t.testBit i = true
    · rw [if_pos c] at hm
      have hm8 : (p + i) % 8 < 8 := Nat.mod_lt _ (by decide)
      have hyj := by_ _ (List.getElem_mem hj)
      have hr : rd y (((p + i) / 8 : Nat) : Int) = y[(p + i) / 8] := by
        unfold rd
        rw [Int.toNat_natCast, List.getD_eq_getElem?_getD, List.getElem?_eq_getElem hj]
        rfl
      have h2b : isByte ((2 ^ ((p + i) % 8) : Nat) : Int) := by
        have h8 := Nat.pow_lt_pow_right (a := 2) (by decide) hm8
        exact ⟨Int.natCast_nonneg _, Int.ofNat_lt.2 h8⟩
      have hval : Go.bits .xor .u8 y[(p + i) / 8] ((2 ^ ((p + i) % 8) : Nat) : Int) = ((y[(p + i) / 8].toNat ^^^ 2 ^ ((p + i) % 8) : Nat) : Int) := by
        rw [xor8 _ _ hyj h2b, Int.toNat_natCast]
      have hset := num_set ((p + i) % 8) hm8 y ((p + i) / 8) hj by_
      have h := ih (i + 1) (y.set ((p + i) / 8) ((y[(p + i) / 8].toNat ^^^ 2 ^ ((p + i) % 8) : Nat) : Int)) hid (by rw [List.length_set]; exact hy) (by
        intro z hz
        rcases List.mem_or_eq_of_mem_set hz with h | h
        · exact by_ z h
        · rw [h]; exact xor_byte _ hyj _ hm8) (by
        rw [hset, hny, hm, Nat.xor_assoc, hsum])
      refine Ev.step (fun k => ?_) h
      simp only [siskinlaw02_CrcBursts.l0]
      rw [if_pos hlt, hw, if_pos (Int.natCast_nonneg _), if_pos (hb.2 c), hq, hd, if_pos (Int.natCast_nonneg _), if_pos (Int.ofNat_lt.2 hj), hmo, if_pos (Int.natCast_nonneg _), hr, shl_one _ hm8, hval, hw1, Int.toNat_natCast]
    · rw [if_neg c] at hm
      have h := ih (i + 1) y hid hy by_ (by rw [hny, hm])
      refine Ev.step (fun k => ?_) h
      simp only [siskinlaw02_CrcBursts.l0]
      rw [if_pos hlt, hw, if_pos (Int.natCast_nonneg _), if_neg (fun z => c (hb.1 z)), hw1]

theorem bursts_late (a : List Int) (b c : Int) : Ev (fun k => siskinlaw02_CrcBursts.j0 k a b c true) true := by
  refine Ev.step (fun k => ?_) (Ev.bind works_f (Ev.now true))
  simp only [siskinlaw02_CrcBursts.j0]
  rw [if_pos trivial]

theorem CrcBursts : siskinlaw02_CrcBursts.Pure := by
  intro l at_ turn _ _ hwf h1 h2
  have hb := bytes_of_wf hwf
  have ht : 0 ≤ turn ∧ turn < 4294967296 := by
    simp [Lit.wf, IntKind.min, IntKind.max, IntKind.signed, IntKind.bits] at h2
    omega
  refine Ev.rounds ?_
  unfold siskinlaw02_CrcBursts.f
  by_cases a : (l.length : Int) > 1000
  · simp only [a, if_true]
    exact bursts_late _ _ _
  · simp only [a, if_false]
    by_cases b : turn = 0
    · simp only [b, if_true]
      exact bursts_late _ _ _
    · simp only [b, if_false]
      by_cases c : at_ < 0
      · simp only [c, if_true]
        exact bursts_late _ _ _
      · simp only [c, if_false]
        have hw : wrap64 (8 * (l.length : Int)) = 8 * (l.length : Int) := w64 (by omega) (by omega)
        rw [hw]
        by_cases d : at_ > 8 * (l.length : Int)
        · rw [decide_eq_true d]
          exact bursts_late _ _ _
        · rw [decide_eq_false d]
          obtain ⟨p, rfl⟩ := Int.eq_ofNat_of_zero_le (show 0 ≤ at_ by omega)
          obtain ⟨t, rfl⟩ := Int.eq_ofNat_of_zero_le ht.1
          have hl4 : (l ++ four (crc l)).length = l.length + 4 := by rw [List.length_append]; rfl
          have hlb : ∀ x ∈ l ++ four (crc l), isByte x := by
            intro x hx
            rcases List.mem_append.1 hx with h | h
            · exact hb x h
            · exact four_byte _ x h
          have h := flips (l ++ four (crc l)) t p l.length hl4 (by omega) hlb (by rw [List.drop_left, List.take_left]) (by omega) (by omega) (by omega) 32 0 (l ++ four (crc l)) rfl hl4 hlb (by rw [tw_0, Nat.xor_zero])
          have hw4 : wrap64 ((l.length : Int) + 4) = (l.length : Int) + 4 := w64 (by omega) (by omega)
          refine Ev.step (f := fun k => (crc_Seal.f k l).bind fun t175 => (if (t175.length : Int) = (wrap64 ((l.length : Int) + 4)) then (siskinlaw02_CrcBursts.l0 k (p : Int) (t : Int) t175 0) else (some false))) (fun k => ?_) (Ev.bind (seal_ev l (by omega) hb) ?_)
          · simp only [siskinlaw02_CrcBursts.j0]
            rw [if_neg (by decide)]
          · rw [hw4, hl4]
            simp only [show ((l.length + 4 : Nat) : Int) = (l.length : Int) + 4 from by omega, if_true]
            exact h

end Go.Proofs.Ytckjliikaocifab.Pure
