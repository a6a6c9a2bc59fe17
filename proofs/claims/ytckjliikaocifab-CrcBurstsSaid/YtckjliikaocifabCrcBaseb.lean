/- What crc.More, crc.Of and the reference's Of come to, for any bytes: one fold over the bytes, of a register of 32 bits; no conditions. -/
import Derived.Test.YtckjliikaocifabGCrcbx1
namespace Go.Proofs.Ytckjliikaocifab.CrcBaseb
open Go.RowKit Go.Proofs.Ytckjliikaocifab.GCrcb Go.Proofs.YtckjliikaocifabW.PrintWords Go.Proofs.YtckjliikaocifabW.PrintLast

/-- a register as the number that it is -/
def I (s : BitVec 32) : Int := (s.toNat : Int)
def poly : BitVec 32 := 3988292384#32
def ones : BitVec 32 := 4294967295#32
/-- one bit -/
def Z (s : BitVec 32) : BitVec 32 := if s &&& 1#32 = 1#32 then (s >>> 1) ^^^ poly else s >>> 1
def Zn : Nat → BitVec 32 → BitVec 32
  | 0, s => s
  | n + 1, s => Zn n (Z s)
def B (c : Int) : BitVec 32 := BitVec.ofInt 32 c
/-- one byte -/
def eat (s : BitVec 32) (c : Int) : BitVec 32 := Zn 8 (s ^^^ B c)
def run (s : BitVec 32) (l : List Int) : BitVec 32 := l.foldl eat s
def crc (l : List Int) : BitVec 32 := ones ^^^ run ones l
def isByte (x : Int) : Prop := 0 ≤ x ∧ x < 256

theorem I_lo (s : BitVec 32) : 0 ≤ I s := Int.natCast_nonneg _
theorem I_hi (s : BitVec 32) : I s < 4294967296 := by have := s.isLt; unfold I; omega
theorem B_I (s : BitVec 32) : B (I s) = s := by unfold B I; simp
theorem I_B {c : Int} (h0 : 0 ≤ c) (h1 : c < 4294967296) : I (B c) = c := by
  unfold B I
  rw [BitVec.toNat_ofInt]
  omega
theorem I_inj {s t : BitVec 32} (h : I s = I t) : s = t := by rw [← B_I s, h, B_I]

theorem u32_in (n : Int) (h0 : 0 ≤ n) (h1 : n < 4294967296) : IntKind.u32.wrap n = n := by rw [IntKind.wrap_u32]; omega
theorem bits_xor (s t : BitVec 32) : Go.bits .xor .u32 (I s) (I t) = I (s ^^^ t) := by
  have h := I_hi (s ^^^ t)
  have e : Go.bits .xor .u32 (I s) (I t) = IntKind.u32.wrap (I (s ^^^ t)) := by
    unfold Go.bits I
    simp [IntKind.bits]
    exact congrArg (fun n : Nat => IntKind.u32.wrap (n : Int)) (BitVec.toNat_xor s t)
  rw [e, u32_in _ (I_lo _) h]
theorem bits_and (s t : BitVec 32) : Go.bits .and .u32 (I s) (I t) = I (s &&& t) := by
  have h := I_hi (s &&& t)
  have e : Go.bits .and .u32 (I s) (I t) = IntKind.u32.wrap (I (s &&& t)) := by
    unfold Go.bits I
    simp [IntKind.bits]
    exact congrArg (fun n : Nat => IntKind.u32.wrap (n : Int)) (BitVec.toNat_and s t)
  rw [e, u32_in _ (I_lo _) h]
theorem I_half (s : BitVec 32) : I s / (2 : Int) = I (s >>> (1 : Nat)) := by
  unfold I
  rw [BitVec.toNat_ushiftRight, Nat.shiftRight_eq_div_pow]
  omega
theorem I_odd (s : BitVec 32) : I (s &&& 1#32) = I s % 2 := by
  unfold I
  rw [BitVec.toNat_and]
  show ((s.toNat &&& 1 : Nat) : Int) = _
  rw [Nat.and_one_is_mod]
  omega
theorem odd_iff (s : BitVec 32) : s &&& 1#32 = 1#32 ↔ I s % 2 = 1 := by
  rw [← I_odd]
  constructor
  · intro h; rw [h]; rfl
  · intro h; exact I_inj h
theorem poly_I : I poly = 3988292384 := by decide
theorem ones_I : I ones = 4294967295 := by decide
theorem one_I : I 1#32 = 1 := by decide
theorem I_Z_odd {s : BitVec 32} (h : I s % 2 = 1) : Go.bits .xor .u32 (I s / 2) 3988292384 = I (Z s) := by
  unfold Z
  rw [if_pos ((odd_iff s).2 h), I_half, ← poly_I, bits_xor]
theorem I_Z_even {s : BitVec 32} (h : ¬ I s % 2 = 1) : I s / 2 = I (Z s) := by
  unfold Z
  rw [if_neg (fun x => h ((odd_iff s).1 x)), I_half]

theorem w64 {x : Int} (h : -9223372036854775808 ≤ x) (h' : x ≤ 9223372036854775807) : wrap64 x = x := by
  unfold wrap64
  omega

/-! ### crc.More -/
theorem More_l1 (l : List Int) (n i : Int) (r : Int) : ∀ (d : Nat) (j : Int) (s : BitVec 32), j = 8 - (d : Int) → d ≤ 8 →
    Ev (fun k => crc_More.l0 k (I (Zn d s)) l n (wrap64 (i + 1))) r → Ev (fun k => crc_More.l1 k (I s) l n i j) r := by
  intro d
  induction d with
  | zero =>
    intro j s hj _ h
    refine Ev.step (fun k => ?_) h
    simp only [crc_More.l1]
    rw [if_neg (by omega)]
    rfl
  | succ d ih =>
    intro j s hj hd h
    refine Ev.step (fun k => ?_) (ih (j + 1) (Z s) (by omega) (by omega) h)
    simp only [crc_More.l1]
    rw [if_pos (by omega), show (1 : Int) = I 1#32 from rfl, bits_and, show wrap64 (j + I 1#32) = j + 1 from w64 (by rw [one_I]; omega) (by rw [one_I]; omega), I_odd, one_I]
    by_cases o : I s % 2 = 1
    · rw [if_pos o, I_Z_odd o]
    · rw [if_neg o, I_Z_even o]

theorem More_l0 (l : List Int) (hl : l.length ≤ 140737488355328) (hb : ∀ x ∈ l, isByte x) : ∀ (d : Nat) (i : Int) (s : BitVec 32), 0 ≤ i → i + d = l.length →
    Ev (fun k => crc_More.l0 k (I s) l (l.length : Int) i) (I (ones ^^^ run s (l.drop i.toNat))) := by
  intro d
  induction d with
  | zero =>
    intro i s h0 hi
    refine Ev.step (fun k => ?_) (Ev.now _)
    simp only [crc_More.l0]
    rw [if_neg (by omega), List.drop_of_length_le (by omega), ← ones_I, bits_xor]
    rfl
  | succ d ih =>
    intro i s h0 hi
    have hlt : i.toNat < l.length := by omega
    have hr : rd l i = l[i.toNat] := by unfold rd; simp [hlt]
    have hx := hb _ (List.getElem_mem hlt)
    have hw : wrap64 (i + 1) = i + 1 := w64 (by omega) (by omega)
    have h := ih (i + 1) (eat s l[i.toNat]) (by omega) (by omega)
    have h2 := More_l1 l (l.length : Int) i _ 8 0 (s ^^^ B l[i.toNat]) (by omega) (by omega) (by rw [hw]; exact h)
    rw [List.drop_eq_getElem_cons hlt]
    rw [show (i + 1).toNat = i.toNat + 1 from by omega] at h2
    refine Ev.step (fun k => ?_) h2
    simp only [crc_More.l0]
    rw [if_pos (by omega), if_pos h0, if_pos (by omega), hr, show l[i.toNat] % 4294967296 = I (B l[i.toNat]) from by rw [I_B hx.1 (by have := hx.2; omega)]; have := hx.1; have := hx.2; omega, bits_xor]

theorem More_f (s : BitVec 32) (l : List Int) (hl : l.length ≤ 140737488355328) (hb : ∀ x ∈ l, isByte x) : Ev (fun k => crc_More.f k (I s) l) (I (ones ^^^ run (ones ^^^ s) l)) := by
  have h := More_l0 l hl hb l.length 0 (ones ^^^ s) (by omega) (by omega)
  refine Ev.congr (fun k => ?_) h
  unfold crc_More.f
  rw [← ones_I, bits_xor]

theorem Of_f (l : List Int) (hl : l.length ≤ 140737488355328) (hb : ∀ x ∈ l, isByte x) : Ev (fun k => crc_Of.f k l) (I (crc l)) := by
  refine Ev.bind (g := fun k => crc_More.f k 0 l) (f := fun _ t => some t) (a := I (crc l)) ?_ (Ev.now _)
  have h := More_f 0#32 l hl hb
  rwa [show ones ^^^ 0#32 = ones from by decide] at h

/-! ### the reference's Of -/
def byteList (s : ByteArray) : List Int := s.data.toList.map fun b => (b.toNat : Int)
theorem byteList_length (s : ByteArray) : (byteList s).length = s.size := by
  unfold byteList
  rw [List.length_map, Array.length_toList]
  rfl
theorem byteList_get (s : ByteArray) (i : Int) (h0 : 0 ≤ i) (h : i < (s.size : Int)) : ∃ hl : i.toNat < (byteList s).length, bt s i = (byteList s)[i.toNat] := by
  have hs : i.toNat < s.size := by omega
  refine ⟨by rw [byteList_length]; exact hs, ?_⟩
  unfold bt byteList
  rw [dif_pos hs, List.getElem_map]
  rfl
theorem byteList_byte (s : ByteArray) : ∀ x ∈ byteList s, isByte x := by
  intro x hx
  unfold byteList at hx
  obtain ⟨b, _, rfl⟩ := List.mem_map.1 hx
  have := b.toNat_lt
  exact ⟨by omega, by omega⟩

theorem xor_odd (x c : BitVec 32) : I (x ^^^ c) % 2 = 1 ↔ ¬ I x % 2 = I c % 2 := by
  rw [← I_odd, ← I_odd, ← I_odd]
  have h : ∀ a b : BitVec 32, (a ^^^ b) &&& 1#32 = (a &&& 1#32) ^^^ (b &&& 1#32) := by
    intro a b
    ext i hi
    simp only [BitVec.getElem_and, BitVec.getElem_xor]
    cases a[i] <;> cases b[i] <;> cases (1#32)[i] <;> rfl
  rw [h]
  have hx := I_odd x
  have hc := I_odd c
  have dx : x &&& 1#32 = 0#32 ∨ x &&& 1#32 = 1#32 := by
    have : I x % 2 = 0 ∨ I x % 2 = 1 := by omega
    rcases this with e | e
    · left; exact I_inj (by rw [hx, e]; rfl)
    · right; exact I_inj (by rw [hx, e]; rfl)
  have dc : c &&& 1#32 = 0#32 ∨ c &&& 1#32 = 1#32 := by
    have : I c % 2 = 0 ∨ I c % 2 = 1 := by omega
    rcases this with e | e
    · left; exact I_inj (by rw [hc, e]; rfl)
    · right; exact I_inj (by rw [hc, e]; rfl)
  rcases dx with e | e <;> rcases dc with f | f <;> rw [e, f] <;> decide

theorem xor_shift (x c : BitVec 32) : (x ^^^ c) >>> 1 = (x >>> 1) ^^^ (c >>> 1) := by
  ext i hi
  simp

theorem Z_xor_odd {x c : BitVec 32} (h : ¬ I x % 2 = I c % 2) : Z (x ^^^ c) = ((x >>> 1) ^^^ poly) ^^^ (c >>> 1) := by
  unfold Z
  rw [if_pos ((odd_iff _).2 ((xor_odd x c).2 h)), xor_shift, BitVec.xor_assoc, BitVec.xor_assoc, BitVec.xor_comm poly]
theorem Z_xor_even {x c : BitVec 32} (h : I x % 2 = I c % 2) : Z (x ^^^ c) = (x >>> 1) ^^^ (c >>> 1) := by
  unfold Z
  rw [if_neg (fun e => (xor_odd x c).1 ((odd_iff _).1 e) h), xor_shift]

theorem tm (s : BitVec 32) : Int.tmod (I s) 2 = I s % 2 := Int.tmod_eq_emod_of_nonneg (I_lo s)
theorem td (s : BitVec 32) : Int.tdiv (I s) 2 % (4294967296 : Int) = I (s >>> (1 : Nat)) := by
  rw [Int.tdiv_eq_ediv_of_nonneg (I_lo s), I_half]
  have := I_lo (s >>> 1)
  have := I_hi (s >>> 1)
  omega

theorem Ref_l1 (t : ByteArray) (i : Int) (r : Int) : ∀ (d : Nat) (j : Int) (x c : BitVec 32), j = 8 - (d : Int) → d ≤ 8 → I c < 2 ^ d →
    Ev (fun k => siskinref02_Of.l0 k t (I (Zn d (x ^^^ c))) (wrap64 (i + 1))) r → Ev (fun k => siskinref02_Of.l1 k t (I x) i (I c) j) r := by
  intro d
  induction d with
  | zero =>
    intro j x c hj _ hc h
    have : c = 0#32 := I_inj (by have := I_lo c; simp at hc; show I c = 0; omega)
    subst this
    refine Ev.step (fun k => ?_) h
    simp only [siskinref02_Of.l1]
    rw [if_neg (by omega)]
    simp [Zn]
  | succ d ih =>
    intro j x c hj hd hc h
    have hw : wrap64 (j + 1) = j + 1 := w64 (by omega) (by omega)
    have hc2 : I (c >>> 1) < 2 ^ d := by rw [← I_half]; rw [Int.pow_succ] at hc; omega
    by_cases o : I x % 2 = I c % 2
    · refine Ev.step (fun k => ?_) (ih (j + 1) (x >>> 1) (c >>> 1) (by omega) (by omega) hc2 (by rw [← Z_xor_even o]; exact h))
      simp only [siskinref02_Of.l1]
      rw [if_pos (by omega), tm, tm, if_pos o, td, td, hw]
    · refine Ev.step (fun k => ?_) (ih (j + 1) ((x >>> 1) ^^^ poly) (c >>> 1) (by omega) (by omega) hc2 (by rw [← Z_xor_odd o]; exact h))
      simp only [siskinref02_Of.l1]
      rw [if_pos (by omega), tm, tm, if_neg o, td, td, hw, ← poly_I, bits_xor]

theorem ones_sub (s : BitVec 32) : (4294967295 - I s) % 4294967296 = I (ones ^^^ s) := by
  have h : ones ^^^ s = ~~~ s := by
    have : ones = BitVec.allOnes 32 := by decide
    rw [this, BitVec.allOnes_xor]
  rw [h]
  have h2 := I_lo s
  have h3 := I_hi s
  unfold I at *
  rw [BitVec.toNat_not]
  omega

theorem Ref_l0 (t : ByteArray) (ht : t.size ≤ 9223372036854775806) : ∀ (d : Nat) (i : Int) (s : BitVec 32), 0 ≤ i → i + d = t.size →
    Ev (fun k => siskinref02_Of.l0 k t (I s) i) (I (ones ^^^ run s ((byteList t).drop i.toNat))) := by
  intro d
  induction d with
  | zero =>
    intro i s h0 hi
    refine Ev.step (fun k => ?_) (Ev.now _)
    simp only [siskinref02_Of.l0]
    rw [if_neg (by omega), List.drop_of_length_le (by rw [byteList_length]; omega), ones_sub]
    rfl
  | succ d ih =>
    intro i s h0 hi
    obtain ⟨hl, hg⟩ := byteList_get t i h0 (by omega)
    have hx := byteList_byte t _ (List.getElem_mem hl)
    have hw : wrap64 (i + 1) = i + 1 := w64 (by omega) (by omega)
    have h := ih (i + 1) (eat s (byteList t)[i.toNat]) (by omega) (by omega)
    have hI : I (B (byteList t)[i.toNat]) = (byteList t)[i.toNat] := I_B hx.1 (by have := hx.2; omega)
    have h2 := Ref_l1 t i _ 8 0 s (B (byteList t)[i.toNat]) (by omega) (by omega) (by rw [hI]; exact hx.2) (by rw [hw]; exact h)
    rw [List.drop_eq_getElem_cons hl]
    rw [show (i + 1).toNat = i.toNat + 1 from by omega] at h2
    refine Ev.step (fun k => ?_) h2
    simp only [siskinref02_Of.l0]
    rw [if_pos (by omega), if_pos h0, hg, hI, show (byteList t)[i.toNat] % 4294967296 = (byteList t)[i.toNat] from by have := hx.1; have := hx.2; omega]

theorem Ref_f (t : ByteArray) (ht : t.size ≤ 9223372036854775806) : Ev (fun k => siskinref02_Of.f k t) (I (crc (byteList t))) := by
  have h := Ref_l0 t ht t.size 0 ones (by omega) (by omega)
  refine Ev.congr (fun k => ?_) h
  unfold siskinref02_Of.f
  rw [← ones_I]

theorem run_append (s : BitVec 32) (a b : List Int) : run s (a ++ b) = run (run s a) b := List.foldl_append
theorem crc_append (a b : List Int) : ones ^^^ run (ones ^^^ crc a) b = crc (a ++ b) := by
  unfold crc
  rw [run_append, ← BitVec.xor_assoc, BitVec.xor_self, BitVec.zero_xor]

theorem works_f : Ev (fun k => siskinlaw02_works.f k) true := by
  have h : siskinlaw02_works.f 200 = some true := by decide +kernel
  exact Ev.of siskinlaw02_works.mono h

/-! ### the law's own words -/
theorem byte_of_wf {x : Int} (h : (Lit.int .u8 x).wf = true) : isByte x := by
  simp [Lit.wf, IntKind.min, IntKind.max, IntKind.signed, IntKind.bits] at h
  exact ⟨h.1, by omega⟩
theorem bytes_of_wf {l : List Int} (h : ∀ x ∈ l, (Lit.int .u8 x).wf = true) : ∀ x ∈ l, isByte x := fun x hx => byte_of_wf (h x hx)
theorem u8_of {x : Int} (h : isByte x) : ((UInt8.ofNat x.toNat).toNat : Int) = x := by
  obtain ⟨h0, h1⟩ := h
  rw [UInt8.toNat_ofNat']
  omega
theorem byteList_str (l : List Int) (hb : ∀ x ∈ l, isByte x) : byteList (strOfNums l) = l := by
  unfold byteList
  rw [strOfNums_data, List.map_map]
  conv => rhs; rw [← List.map_id l]
  exact List.map_congr_left fun x hx => u8_of (hb x hx)
theorem byteList_append (s t : ByteArray) : byteList (s ++ t) = byteList s ++ byteList t := by
  unfold byteList
  rw [← List.map_append]
  exact congrArg _ (by simp)

end Go.Proofs.Ytckjliikaocifab.CrcBaseb
