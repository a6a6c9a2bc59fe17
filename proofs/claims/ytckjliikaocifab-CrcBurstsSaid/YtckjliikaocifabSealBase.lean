/- What crc.Seal and crc.Open come to, for any bytes, at most a million; no other condition. -/
import Derived.Test.YtckjliikaocifabGCrcbx1
import Derived.Test.YtckjliikaocifabCrcBaseb
namespace Go.Proofs.Ytckjliikaocifab.CrcBaseb
open Go.RowKit Go.Proofs.Ytckjliikaocifab.GCrcb Go.Proofs.YtckjliikaocifabW.PrintWords Go.Proofs.YtckjliikaocifabW.PrintLast Go.Proofs.YtckjliikaocifabW.PrintMore

/-- the i-th byte of a sum -/
def byteAt (s : BitVec 32) (i : Nat) : Int := I s / 2 ^ (8 * i) % 256
def four (s : BitVec 32) : List Int := [byteAt s 0, byteAt s 1, byteAt s 2, byteAt s 3]
theorem byteAt_byte (s : BitVec 32) (i : Nat) : isByte (byteAt s i) := ⟨Int.emod_nonneg _ (by decide), Int.emod_lt_of_pos _ (by decide)⟩
theorem four_byte (s : BitVec 32) : ∀ x ∈ four s, isByte x := by
  intro x hx
  unfold four at hx
  simp only [List.mem_cons, List.not_mem_nil, or_false] at hx
  rcases hx with h | h | h | h <;> rw [h] <;> exact byteAt_byte _ _
theorem shr_at (s : BitVec 32) (i : Nat) (hi : i < 4) : shr .u32 (I s) (8 * (i : Int)) % 256 = byteAt s i := by
  unfold shr byteAt
  rw [show (8 * (i : Int)).toNat = 8 * i from by omega, Nat.min_eq_left (show 8 * i ≤ IntKind.u32.bits from by show 8 * i ≤ 32; omega)]

theorem seal_loop (s : BitVec 32) : ∀ (d i : Nat) (l : List Int), i + d = 4 → l.length + d ≤ 2000000 → Ev (fun k => crc_Seal.l0 k (I s) l (i : Int)) (l ++ (four s).drop i) := by
  intro d
  induction d with
  | zero =>
    intro i l hi hl
    obtain rfl : i = 4 := by omega
    refine Ev.step (fun k => ?_) (Ev.now _)
    simp only [crc_Seal.l0]
    rw [if_neg (by omega)]
    simp [four]
  | succ d ih =>
    intro i l hi hl
    have hw : wrap64 (8 * (i : Int)) = 8 * (i : Int) := w64 (by omega) (by omega)
    have hw1 : wrap64 ((i : Int) + 1) = ((i + 1 : Nat) : Int) := by
      have h := w64 (x := (i : Int) + 1) (by omega) (by omega)
      omega
    have h := ih (i + 1) (l ++ [byteAt s i]) (by omega) (by rw [List.length_append]; simp; omega)
    have e : l ++ [byteAt s i] ++ (four s).drop (i + 1) = l ++ (four s).drop i := by
      have : i = 0 ∨ i = 1 ∨ i = 2 ∨ i = 3 := by omega
      rcases this with rfl | rfl | rfl | rfl <;> simp [four]
    rw [e] at h
    refine Ev.step (fun k => ?_) h
    simp only [crc_Seal.l0]
    rw [if_pos (by omega), hw, if_pos (by omega), if_pos (by omega), hw1]
    rw [shr_at s i (by omega)]

theorem seal_ev (l : List Int) (hl : l.length ≤ 1000000) (hb : ∀ x ∈ l, isByte x) : Ev (fun k => crc_Seal.f k l) (l ++ four (crc l)) := by
  have h := seal_loop (crc l) 4 0 l (by omega) (by omega)
  have hw : wrap64 ((l.length : Int) + 4) = (l.length : Int) + 4 := w64 (by omega) (by omega)
  refine Ev.bind (g := fun k => crc_Of.f k l) (f := fun k t128 => (if 0 ≤ (wrap64 ((l.length : Int) + 4)) then (if (wrap64 ((l.length : Int) + 4) : Int).toNat ≤ 281474976710656 then ((some (([] : List Int) : List Int)).bind fun y129 => (if y129.length + l.length < 140737488355328 then (crc_Seal.l0 k t128 (y129 ++ l) 0) else (none))) else (none)) else (none))) (Of_f l (by omega) hb) ?_
  rw [hw]
  simp only [show 0 ≤ (l.length : Int) + 4 from by omega, show ((l.length : Int) + 4).toNat ≤ 281474976710656 from by omega, if_true, Option.bind_some, List.length_nil, Nat.zero_add, List.nil_append, show l.length < 140737488355328 from by omega]
  exact h

theorem open_step (l : List Int) (n : Nat) (s : BitVec 32) (i : Nat) (hi : i < 4) (hn : n + 4 = l.length) (hl : l.length ≤ 2000000) (r : List Int × Bool)
    (h1 : rd l ((n : Int) + i) = byteAt s i → Ev (fun k => crc_Open.l0 k l n (I s) ((i + 1 : Nat) : Int)) r) (h0 : ¬ rd l ((n : Int) + i) = byteAt s i → r = ([], false)) :
    Ev (fun k => crc_Open.l0 k l n (I s) (i : Int)) r := by
  have hw : wrap64 ((n : Int) + i) = (n : Int) + i := w64 (by omega) (by omega)
  have hw8 : wrap64 (8 * (i : Int)) = 8 * (i : Int) := w64 (by omega) (by omega)
  have hw1 : wrap64 ((i : Int) + 1) = ((i + 1 : Nat) : Int) := by
      have h := w64 (x := (i : Int) + 1) (by omega) (by omega)
      omega
  by_cases c : rd l ((n : Int) + i) = byteAt s i
  · refine Ev.step (fun k => ?_) (h1 c)
    simp only [crc_Open.l0]
    rw [if_pos (by omega), hw, if_pos (by omega), if_pos (by omega), hw8, if_pos (by omega), shr_at s i hi, if_pos c, hw1]
  · rw [h0 c]
    refine Ev.step (fun k => ?_) (Ev.now _)
    simp only [crc_Open.l0]
    rw [if_pos (by omega), hw, if_pos (by omega), if_pos (by omega), hw8, if_pos (by omega), shr_at s i hi, if_neg c]

theorem open_done (l : List Int) (n : Nat) (s : BitVec 32) (hn : n + 4 = l.length) (hl : l.length ≤ 2000000) : Ev (fun k => crc_Open.l0 k l n (I s) 4) (l.take n, true) := by
  refine Ev.step (fun k => ?_) (Ev.now _)
  simp only [crc_Open.l0]
  rw [if_neg (by omega)]
  simp only [Option.bind_some, List.length_nil, Nat.zero_add, List.nil_append, Int.toNat_natCast]
  rw [if_pos (by omega), if_pos (by omega), if_pos (by rw [List.length_take]; omega)]

theorem drop_four (l : List Int) (n : Nat) (hn : n + 4 = l.length) : l.drop n = [rd l (n : Int), rd l ((n : Int) + 1), rd l ((n : Int) + 2), rd l ((n : Int) + 3)] := by
  have e : ∀ i : Nat, i < 4 → rd l ((n : Int) + i) = l.getD (n + i) 0 := fun i _ => by unfold rd; rw [show ((n : Int) + i).toNat = n + i from by omega]
  apply List.ext_getElem
  · simp; omega
  · intro i h1 h2
    simp only [List.length_cons, List.length_nil] at h2
    have hi : i = 0 ∨ i = 1 ∨ i = 2 ∨ i = 3 := by omega
    have hg : l.getD (n + i) 0 = l[n + i]'(by omega) := by simp [show n + i < l.length by omega]
    rcases hi with rfl | rfl | rfl | rfl
    · rw [List.getElem_drop, ← hg]
      exact ((e 0 (by omega)).symm.trans (by simp))
    · rw [List.getElem_drop, ← hg]
      exact ((e 1 (by omega)).symm.trans (by simp))
    · rw [List.getElem_drop, ← hg]
      exact ((e 2 (by omega)).symm.trans (by simp))
    · rw [List.getElem_drop, ← hg]
      exact ((e 3 (by omega)).symm.trans (by simp))

theorem open_loop (l : List Int) (n : Nat) (s : BitVec 32) (hn : n + 4 = l.length) (hl : l.length ≤ 2000000) :
    Ev (fun k => crc_Open.l0 k l n (I s) 0) (if l.drop n = four s then (l.take n, true) else ([], false)) := by
  rw [drop_four l n hn]
  unfold four
  refine open_step l n s 0 (by omega) hn hl _ (fun c0 => ?_) (fun c0 => ?_)
  · refine open_step l n s 1 (by omega) hn hl _ (fun c1 => ?_) (fun c1 => ?_)
    · refine open_step l n s 2 (by omega) hn hl _ (fun c2 => ?_) (fun c2 => ?_)
      · refine open_step l n s 3 (by omega) hn hl _ (fun c3 => ?_) (fun c3 => ?_)
        · rw [if_pos]
          · exact open_done l n s hn hl
          · simp only [Int.natCast_zero, Int.add_zero] at c0
            simp only [List.cons.injEq, and_true]
            exact ⟨c0, c1, c2, c3⟩
        · rw [if_neg]
          simp only [List.cons.injEq, and_true]
          exact fun h => c3 h.2.2.2
      · rw [if_neg]
        simp only [List.cons.injEq, and_true]
        exact fun h => c2 h.2.2.1
    · rw [if_neg]
      simp only [List.cons.injEq, and_true]
      exact fun h => c1 h.2.1
  · rw [if_neg]
    simp only [Int.natCast_zero, Int.add_zero] at c0
    simp only [List.cons.injEq, and_true]
    exact fun h => c0 h.1

/-- what Open comes to -/
def opened (l : List Int) : List Int × Bool := if l.length < 4 then ([], false) else if l.drop (l.length - 4) = four (crc (l.take (l.length - 4))) then (l.take (l.length - 4), true) else ([], false)

theorem open_ev (l : List Int) (hl : l.length ≤ 2000000) (hb : ∀ x ∈ l, isByte x) : Ev (fun k => crc_Open.f k l) (opened l) := by
  have hw : wrap64 ((l.length : Int) - 4) = (l.length : Int) - 4 := w64 (by omega) (by omega)
  unfold opened crc_Open.f
  rw [hw]
  by_cases a : l.length < 4
  · simp only [show (l.length : Int) - 4 < 0 from by omega, a, if_true]
    exact Ev.now _
  · obtain ⟨n, hn⟩ : ∃ n, n + 4 = l.length := ⟨l.length - 4, by omega⟩
    have e : l.length - 4 = n := by omega
    have e' : (l.length : Int) - 4 = (n : Int) := by omega
    simp only [e', show ¬ (n : Int) < 0 from by omega, show 0 ≤ (n : Int) from by omega, show (n : Int) ≤ (l.length : Int) from by omega, if_true, if_false, a, e, Int.toNat_natCast]
    have h1 := Of_f (l.take n) (by rw [List.length_take]; omega) (fun x hx => hb x (List.mem_of_mem_take hx))
    exact Ev.bind h1 (open_loop l n (crc (l.take n)) hn hl)

end Go.Proofs.Ytckjliikaocifab.CrcBaseb
