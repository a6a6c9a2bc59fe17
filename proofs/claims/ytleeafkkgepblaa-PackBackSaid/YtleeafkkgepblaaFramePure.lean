/- Frames: cut, put, torn, turned; over numbers alone. -/
import Derived.Test.YtleeafkkgepblaaCrc3
import Derived.Test.YtleeafkkgepblaaOctRef
set_option linter.all false
set_option linter.unusedSimpArgs false
set_option maxRecDepth 100000
namespace Go.Proofs.Ytleeafkkgepblaa.Oct
open Go Go.RowKit Go.Proofs.Ytleeafkkgepblaa.Lift Go.Proofs.Ytleeafkkgepblaa Go.Proofs.Ytleeafkkgepblaa.CrcC

/-- A payload's frame. -/
def textB (p : List Int) : List Int := numB p.length ++ p
def frameB (p : List Int) : List Int := textB p ++ Crc.four (Crc.crc (textB p))

/-- The frame with which bytes begin. -/
def cutP (b : List Int) : List Int × Nat × Int :=
  if (rdT b 0 4096).2.2 ≠ 0 then ([], 0, (rdT b 0 4096).2.2) else
  if b.length < (rdT b 0 4096).2.1 + 4 then ([], 0, 2) else
  if sealed (b.take ((rdT b 0 4096).2.1 + 4)) = true then ((rdT b 0 4096).1, (rdT b 0 4096).2.1 + 4, 0) else ([], 0, 16)

/-- All frames. -/
def allP : Nat → List Int → List ByteArray × Nat
  | 0, _ => ([], 0)
  | f + 1, r => if r = [] then ([], 0) else if (cutP r).2.2 ≠ 0 then ([], 0) else
    (bs (cutP r).1 :: (allP f (r.drop (cutP r).2.1)).1, (cutP r).2.1 + (allP f (r.drop (cutP r).2.1)).2)

theorem four_len (s : BitVec 32) : (Crc.four s).length = 4 := rfl
theorem four_range (s : BitVec 32) : ∀ a ∈ Crc.four s, 0 ≤ a ∧ a ≤ 255 := fun a ha => by have := Crc.four_byte s a ha; exact ⟨this.1, by have := this.2; omega⟩
theorem textB_len (p : List Int) (h : p.length < 72057594037927936) : 1 ≤ (textB p).length ∧ (textB p).length ≤ p.length + 8 := by
  have h1 := numB_len p.length h
  have h2 : 1 ≤ (numB p.length).length := by unfold numB; split <;> simp
  unfold textB
  simp only [List.length_append]
  omega
theorem textB_range (p : List Int) (h : p.length < 72057594037927936) (hp : ∀ a ∈ p, 0 ≤ a ∧ a ≤ 255) : ∀ a ∈ textB p, 0 ≤ a ∧ a ≤ 255 := fun a ha => (List.mem_append.1 ha).elim (numB_range _ h a) (hp a)
theorem frameB_range (p : List Int) (h : p.length < 72057594037927936) (hp : ∀ a ∈ p, 0 ≤ a ∧ a ≤ 255) : ∀ a ∈ frameB p, 0 ≤ a ∧ a ≤ 255 := fun a ha => (List.mem_append.1 ha).elim (textB_range p h hp a) (four_range _ a)
theorem frameB_len (p : List Int) : (frameB p).length = (textB p).length + 4 := by unfold frameB; simp [four_len]

theorem rdT_ok' (r : List Int) (m : Int) (hr : ∀ a ∈ r, 0 ≤ a ∧ a ≤ 255) : (rdT r 0 m).2.1 ≤ r.length := by
  have h1 := nxt_ok r m hr
  unfold rdT
  rw [if_neg (by simp)]
  split
  · simp
  · rename_i h3
    obtain ⟨g1, g2, g3, g4⟩ := h1 (by simpa using h3)
    split
    · simp
    · simp only []; omega

theorem sealed_iff (b : List Int) (k : Nat) (h : k + 4 ≤ b.length) : sealed (b.take (k + 4)) = true ↔ b.take k ++ Crc.four (Crc.crc (b.take k)) = b.take (k + 4) := by
  have hl : (b.take (k + 4)).length = k + 4 := by simp; omega
  have ht : (b.take (k + 4)).take k = b.take k := by rw [List.take_take]; congr 1; omega
  have hs : b.take (k + 4) = b.take k ++ (b.take (k + 4)).drop k := by
    conv => lhs; rw [← List.take_append_drop k (b.take (k + 4)), ht]
  unfold sealed
  rw [hl, show k + 4 - 4 = k by omega, ht]
  simp only [show 4 ≤ k + 4 by omega, decide_true, Bool.true_and, decide_eq_true_eq]
  constructor
  · intro e; rw [hs, e]
  · intro e
    rw [hs] at e
    exact (List.append_cancel_left e).symm

/-- A text that was put is read. -/
theorem rdT_text (p rest : List Int) (m : Int) (h : (p.length : Int) ≤ m) (h2 : p.length < 72057594037927936) : rdT (textB p ++ rest) 0 m = (p, (textB p).length, 0) := by
  have h1 := nxt_num p.length (p ++ rest) m h2 h
  unfold rdT textB
  rw [List.append_assoc, h1]
  simp only [ne_eq, not_true_eq_false, if_false]
  rw [if_neg (by simp; omega), List.drop_left, Int.toNat_natCast, List.take_left]
  simp

theorem cutP_frame (p rest : List Int) (h : p.length ≤ 4096) : cutP (frameB p ++ rest) = (p, (frameB p).length, 0) := by
  have e : frameB p ++ rest = textB p ++ (Crc.four (Crc.crc (textB p)) ++ rest) := by unfold frameB; rw [List.append_assoc]
  have h1 := rdT_text p (Crc.four (Crc.crc (textB p)) ++ rest) 4096 (by omega) (by omega)
  rw [← e] at h1
  unfold cutP
  rw [h1]
  simp only [ne_eq, not_true_eq_false, if_false]
  have hl : (frameB p ++ rest).length = (textB p).length + 4 + rest.length := by rw [List.length_append, frameB_len]
  rw [if_neg (by omega), if_pos, frameB_len]
  rw [sealed_iff _ _ (by omega)]
  rw [e, List.take_left, ← List.append_assoc, List.take_left' (by simp [four_len])]

/-- Whole frames, then something that is none. -/
theorem allP_frames : ∀ (ps : List (List Int)) (rest : List Int) (f : Nat), (∀ p ∈ ps, p.length ≤ 4096) → ps.length < f → (rest = [] ∨ (cutP rest).2.2 ≠ 0) → allP f ((ps.map frameB).flatten ++ rest) = (ps.map bs, (ps.map frameB).flatten.length)
  | [], rest, f, _, hf, hr => by
    obtain ⟨f, rfl⟩ : ∃ g, f = g + 1 := ⟨f - 1, by simp at hf; omega⟩
    simp only [List.map_nil, List.flatten_nil, List.nil_append, List.length_nil, allP]
    by_cases h : rest = []
    · rw [if_pos h]
    · rw [if_neg h, if_pos (hr.resolve_left h)]
  | p :: ps, rest, f, hp, hf, hr => by
    simp only [List.length_cons] at hf
    obtain ⟨f, rfl⟩ : ∃ g, f = g + 1 := ⟨f - 1, by omega⟩
    have hc := cutP_frame p ((ps.map frameB).flatten ++ rest) (hp p (by simp))
    have ih := allP_frames ps rest f (fun q hq => hp q (by simp [hq])) (by omega) hr
    have hne : frameB p ++ ((ps.map frameB).flatten ++ rest) ≠ [] := by
      intro e
      have := congrArg List.length e
      rw [List.length_append, frameB_len] at this
      simp at this
    simp only [List.map_cons, List.flatten_cons, List.append_assoc, allP]
    rw [if_neg hne, hc]
    simp only [ne_eq, not_true_eq_false, if_false, List.drop_left]
    rw [ih]
    simp

/-- A beginning of a frame is none. -/
theorem cutP_torn (p : List Int) (m : Nat) (h : p.length < 248) (hm : m < (frameB p).length) (hp : ∀ a ∈ p, 0 ≤ a ∧ a ≤ 255) : (frameB p).take m = [] ∨ (cutP ((frameB p).take m)).2.2 ≠ 0 := by
  rcases Nat.eq_zero_or_pos m with rfl | hm0
  · exact .inl (by simp)
  refine .inr ?_
  have ht : textB p = (p.length : Int) :: p := by unfold textB numB; rw [if_pos h]; rfl
  have hl : (textB p).length = p.length + 1 := by rw [ht]; simp
  rw [frameB_len] at hm
  obtain ⟨m, rfl⟩ : ∃ k, m = k + 1 := ⟨m - 1, by omega⟩
  have hf : (frameB p).take (m + 1) = (p.length : Int) :: (p ++ Crc.four (Crc.crc (textB p))).take m := by
    unfold frameB
    rw [show textB p ++ Crc.four (Crc.crc (textB p)) = (p.length : Int) :: (p ++ Crc.four (Crc.crc (textB p))) by rw [ht]; rfl, List.take_succ_cons]
  have hnx : nxt ((frameB p).take (m + 1)) 4096 = ((p.length : Int), 1, 0) := by
    rw [hf, nxt.eq_def]
    simp only []
    rw [if_pos (by omega), capped, if_neg (by omega)]
  have hlen : ((frameB p).take (m + 1)).length = m + 1 := by rw [List.length_take, frameB_len]; omega
  unfold cutP rdT
  rw [hnx]
  simp only [ne_eq, not_true_eq_false, if_false, hlen]
  by_cases hq : ((m + 1 : Nat) : Int) - (1 : Nat) < (p.length : Int)
  · rw [if_pos hq]; simp
  · rw [if_neg hq]
    simp only [not_true_eq_false, if_false, Int.toNat_natCast]
    rw [if_pos (by omega)]
    simp

/-- Bits turned behind a frame's head, all among 32 in a row. -/
theorem sealed_turned (l l' : List Int) (hl : l'.length = l.length) (h4 : 4 ≤ l.length) (hb : ∀ a ∈ l, 0 ≤ a ∧ a ≤ 255) (hb' : ∀ a ∈ l', 0 ≤ a ∧ a ≤ 255) (hs : sealed l = true) (t at_ : Nat) (ht : 0 < t) (ht2 : t < 2 ^ 32) (hn : Crc.num l' = Crc.num l ^^^ (t * 2 ^ at_)) : sealed l' = false := by
  by_cases hs' : sealed l' = true
  · exfalso
    have b1 : ∀ x ∈ l, Crc.isByte x := fun x hx => ⟨(hb x hx).1, by have := (hb x hx).2; omega⟩
    have b2 : ∀ x ∈ l', Crc.isByte x := fun x hx => ⟨(hb' x hx).1, by have := (hb' x hx).2; omega⟩
    unfold sealed at hs hs'
    simp only [Bool.and_eq_true, decide_eq_true_eq] at hs hs'
    have e1 := Crc.sealed_ones l h4 b1 hs.2
    have e2 := Crc.sealed_ones l' (by omega) b2 hs'.2
    rw [hl, hn, ← Nat.xor_assoc, Crc.zbn_xor, e1] at e2
    have e3 : Crc.zbn (8 * (l.length - 4)) (t * 2 ^ at_) = 0 := by
      have := congrArg (fun z => Crc.ones.toNat ^^^ z) e2
      simp only [← Nat.xor_assoc, Nat.xor_self, Nat.zero_xor] at this
      exact this
    rcases Nat.lt_or_ge (8 * (l.length - 4)) at_ with h | h
    · obtain ⟨d, rfl⟩ : ∃ d, at_ = d + 8 * (l.length - 4) := ⟨at_ - 8 * (l.length - 4), by omega⟩
      rw [Nat.pow_add, ← Nat.mul_assoc, Crc.zbn_shift] at e3
      have := Nat.mul_pos ht (Nat.two_pow_pos d)
      omega
    · have := Crc.burst t at_ _ ht ht2 h
      omega
  · simpa using hs'

end Go.Proofs.Ytleeafkkgepblaa.Oct
