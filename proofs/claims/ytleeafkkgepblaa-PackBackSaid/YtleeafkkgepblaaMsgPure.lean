/- Messages as bytes: there and back; no program in sight. -/
import Derived.Test.YtleeafkkgepblaaOctPure
set_option linter.all false
set_option linter.unusedSimpArgs false
set_option maxRecDepth 100000
namespace Go.Proofs.Ytleeafkkgepblaa.Oct
open Go Go.RowKit Go.Proofs.Ytleeafkkgepblaa.Lift

/-- A message: its kind, job, task, epoch. -/
abbrev M4 := Int × Int × Int × Int
def hasJ (k : Int) : Bool := decide (1 ≤ k) && decide (k ≤ 10)
def hasT (k : Int) : Bool := decide (k = 4) || (decide (7 ≤ k) && decide (k ≤ 9))
def hasE (k : Int) : Bool := decide (k = 1) || (decide (k = 4) || decide (k = 10))
def inF (h : Bool) (n least most : Int) : Bool := if h = true then decide (least ≤ n) && decide (n ≤ most) else decide (n = 0)
def chkM (m : M4) : Bool := decide (1 ≤ m.1) && (decide (m.1 ≤ 11) && (inF (hasJ m.1) m.2.1 1 72057594037927935 && (inF (hasT m.1) m.2.2.1 0 15 && inF (hasE m.1) m.2.2.2 1 9)))
def fb (h : Bool) (n : Int) : List Int := if h = true then numB n.toNat else []
def bytesM (m : M4) : List Int := numB m.1.toNat ++ (fb (hasJ m.1) m.2.1 ++ (fb (hasT m.1) m.2.2.1 ++ fb (hasE m.1) m.2.2.2))

/-- A number that is not 0. -/
def rdL (r : List Int) (e m : Int) : Int × Nat × Int := ((rdN r e m).1, (rdN r e m).2.1, if (rdN r e m).1 = 0 then (if (rdN r e m).2.2 = 0 then 3 else (rdN r e m).2.2) else (rdN r e m).2.2)
/-- A field that is there, or not. -/
def rdH (h least : Bool) (r : List Int) (e m : Int) : Int × Nat × Int := if h = true then (if least = true then rdL r e m else rdN r e m) else (0, 0, e)

/-- What is read of bytes, and what is left, and what is wrong. -/
def readM (x : List Int) : M4 × List Int × Int :=
  let a := rdL x 0 11
  let r1 := x.drop a.2.1
  let b := rdH (hasJ a.1) true r1 a.2.2 72057594037927935
  let r2 := r1.drop b.2.1
  let c := rdH (hasT a.1) false r2 b.2.2 15
  let r3 := r2.drop c.2.1
  let d := rdH (hasE a.1) true r3 c.2.2 9
  ((a.1, b.1, c.1, d.1), r3.drop d.2.1, d.2.2)
def parseM (x : List Int) : M4 × Int :=
  if endE (readM x).2.2 (readM x).2.1.length ≠ 0 then ((0, 0, 0, 0), endE (readM x).2.2 (readM x).2.1.length) else ((readM x).1, 0)

theorem rdN_num (n : Int) (rest : List Int) (m : Int) (h0 : 0 ≤ n) (h1 : n ≤ m) (h2 : m < 72057594037927936) : rdN (numB n.toNat ++ rest) 0 m = (n, (numB n.toNat).length, 0) := by
  obtain ⟨k, rfl⟩ := Int.eq_ofNat_of_zero_le h0
  unfold rdN
  rw [if_neg (by simp), Int.toNat_natCast, nxt_num k rest m (by omega) h1]
  simp
theorem rdL_num (n : Int) (rest : List Int) (m : Int) (h0 : 1 ≤ n) (h1 : n ≤ m) (h2 : m < 72057594037927936) : rdL (numB n.toNat ++ rest) 0 m = (n, (numB n.toNat).length, 0) := by
  unfold rdL
  rw [rdN_num n rest m (by omega) h1 h2]
  simp only []
  rw [if_neg (by omega)]
theorem rdH_put (h least : Bool) (n : Int) (rest : List Int) (m lo : Int) (hl : lo = if least = true then 1 else 0) (hc : inF h n lo m = true) (h2 : m < 72057594037927936) :
    rdH h least (fb h n ++ rest) 0 m = (n, (fb h n).length, 0) := by
  unfold rdH fb inF at *
  cases h with
  | false => simp at hc ⊢; exact hc.symm
  | true =>
    simp only [if_true, Bool.and_eq_true, decide_eq_true_eq] at hc ⊢
    cases least with
    | true => simp only [if_true] at hl ⊢; exact rdL_num n rest m (by omega) hc.2 h2
    | false => simp only [Bool.false_eq_true, if_false] at hl ⊢; exact rdN_num n rest m (by omega) hc.2 h2

theorem readM_bytes (m : M4) (rest : List Int) (h : chkM m = true) : readM (bytesM m ++ rest) = (m, rest, 0) := by
  obtain ⟨k, j, t, e⟩ := m
  simp only [chkM, Bool.and_eq_true, decide_eq_true_eq] at h
  obtain ⟨h1, h2, h3, h4, h5⟩ := h
  have a := rdL_num k (fb (hasJ k) j ++ (fb (hasT k) t ++ (fb (hasE k) e ++ rest))) 11 h1 h2 (by omega)
  have b := rdH_put (hasJ k) true j (fb (hasT k) t ++ (fb (hasE k) e ++ rest)) _ 1 rfl h3 (by omega)
  have c := rdH_put (hasT k) false t (fb (hasE k) e ++ rest) _ 0 rfl h4 (by omega)
  have d := rdH_put (hasE k) true e rest _ 1 rfl h5 (by omega)
  have e0 : bytesM (k, j, t, e) ++ rest = numB k.toNat ++ (fb (hasJ k) j ++ (fb (hasT k) t ++ (fb (hasE k) e ++ rest))) := by simp [bytesM]
  unfold readM
  rw [e0]
  simp only [a, List.drop_left, b, c, d]

theorem rdN_back (r : List Int) (e m : Int) (hm : 0 ≤ m) (hr : ∀ a ∈ r, 0 ≤ a ∧ a ≤ 255) (h : (rdN r e m).2.2 = 0) : e = 0 ∧ r = numB (rdN r e m).1.toNat ++ r.drop (rdN r e m).2.1 ∧ 0 ≤ (rdN r e m).1 ∧ (rdN r e m).1 ≤ m := by
  unfold rdN at *
  by_cases he : e = 0
  · subst he
    simp only [ne_eq, not_true_eq_false, if_false] at h ⊢
    by_cases h2 : (nxt r m).2.2 = 0
    · rw [if_neg (by simpa using h2)]
      obtain ⟨g1, g2, g3, g4⟩ := nxt_ok r m hr h2
      refine ⟨trivial, ?_, g3, ?_⟩
      · simp only []
        rw [nxt_back r m hr h2, List.take_append_drop]
      · cases r with
        | nil => simp [nxt] at h2
        | cons a t =>
          rw [nxt.eq_def] at h2 ⊢
          simp only [] at h2 ⊢
          have hcap : ∀ n w, (capped n m w).2.2 = 0 → (capped n m w).1 ≤ m := by
            intro n w hc
            unfold capped at *
            split
            · rename_i hq; rw [if_pos hq] at hc; simp at hc
            · rename_i hq; simp only []; omega
          split
          · rename_i q; rw [if_pos q] at h2; exact hcap _ _ h2
          · rename_i q; rw [if_neg q] at h2
            split
            · rename_i q2; rw [if_pos q2] at h2; simp at h2
            · rename_i q2; rw [if_neg q2] at h2
              split
              · rename_i q3; rw [if_pos q3] at h2; simp at h2
              · rename_i q3; rw [if_neg q3] at h2
                split
                · rename_i q4; rw [if_pos q4] at h2; simp at h2
                · rename_i q4; rw [if_neg q4] at h2; exact hcap _ _ h2
    · rw [if_pos h2] at h
      exact absurd h h2
  · rw [if_pos he] at h
    exact absurd h he

theorem rdL_back (r : List Int) (e m : Int) (hm : 0 ≤ m) (hr : ∀ a ∈ r, 0 ≤ a ∧ a ≤ 255) (h : (rdL r e m).2.2 = 0) : e = 0 ∧ r = numB (rdL r e m).1.toNat ++ r.drop (rdL r e m).2.1 ∧ 1 ≤ (rdL r e m).1 ∧ (rdL r e m).1 ≤ m := by
  unfold rdL at *
  simp only [] at h ⊢
  by_cases h0 : (rdN r e m).1 = 0
  · rw [if_pos h0] at h
    split at h
    · cases h
    · rename_i q; exact absurd h q
  · rw [if_neg h0] at h
    obtain ⟨g1, g2, g3, g4⟩ := rdN_back r e m hm hr h
    exact ⟨g1, g2, by omega, g4⟩

theorem rdH_back (h least : Bool) (r : List Int) (e m lo : Int) (hl : lo = if least = true then 1 else 0) (hm : 0 ≤ m) (hr : ∀ a ∈ r, 0 ≤ a ∧ a ≤ 255) (he : (rdH h least r e m).2.2 = 0) :
    e = 0 ∧ r = fb h (rdH h least r e m).1 ++ r.drop (rdH h least r e m).2.1 ∧ inF h (rdH h least r e m).1 lo m = true := by
  unfold rdH fb inF at *
  cases h with
  | false => simp at he ⊢; exact he
  | true =>
    cases least with
    | true =>
      simp only [if_true] at hl he ⊢
      obtain ⟨g1, g2, g3, g4⟩ := rdL_back r e m hm hr he
      exact ⟨g1, g2, by simp; omega⟩
    | false =>
      simp only [if_true, Bool.false_eq_true, if_false] at hl he ⊢
      obtain ⟨g1, g2, g3, g4⟩ := rdN_back r e m hm hr he
      exact ⟨g1, g2, by simp; omega⟩

theorem readM_back (x : List Int) (hx : ∀ a ∈ x, 0 ≤ a ∧ a ≤ 255) (h : (readM x).2.2 = 0) : chkM (readM x).1 = true ∧ x = bytesM (readM x).1 ++ (readM x).2.1 := by
  have hd : ∀ {r : List Int} (n : Nat), (∀ a ∈ r, 0 ≤ a ∧ a ≤ 255) → ∀ a ∈ r.drop n, 0 ≤ a ∧ a ≤ 255 := fun n h a ha => h a (List.mem_of_mem_drop ha)
  unfold readM at *
  simp only [] at h ⊢
  have x1 := hd (rdL x 0 11).2.1 hx
  have x2 := hd (rdH (hasJ (rdL x 0 11).1) true (x.drop (rdL x 0 11).2.1) (rdL x 0 11).2.2 72057594037927935).2.1 x1
  obtain ⟨d1, d2, d3⟩ := rdH_back (hasE (rdL x 0 11).1) true _ _ 9 1 rfl (by omega) (hd _ x2) h
  obtain ⟨c1, c2, c3⟩ := rdH_back (hasT (rdL x 0 11).1) false _ _ 15 0 rfl (by omega) x2 d1
  obtain ⟨b1, b2, b3⟩ := rdH_back (hasJ (rdL x 0 11).1) true _ _ 72057594037927935 1 rfl (by omega) x1 c1
  obtain ⟨a1, a2, a3, a4⟩ := rdL_back x 0 11 (by omega) hx b1
  refine ⟨?_, ?_⟩
  · simp only [chkM, Bool.and_eq_true, decide_eq_true_eq]
    exact ⟨a3, a4, b3, c3, d3⟩
  · unfold bytesM
    simp only []
    rw [List.append_assoc, List.append_assoc, List.append_assoc, ← d2, ← c2, ← b2, ← a2]

theorem endE_0 {e : Int} {n : Nat} : endE e n = 0 ↔ e = 0 ∧ n = 0 := by
  unfold endE
  split
  · rename_i h; simp; intro h'; exact absurd h' h
  · rename_i h
    have : e = 0 := by simpa using h
    split <;> simp [this] <;> omega

theorem parseM_bytes (m : M4) (h : chkM m = true) : parseM (bytesM m) = (m, 0) := by
  have := readM_bytes m [] h
  rw [List.append_nil] at this
  unfold parseM
  rw [this]
  simp [endE]

theorem parseM_back (x : List Int) (hx : ∀ a ∈ x, 0 ≤ a ∧ a ≤ 255) (h : (parseM x).2 = 0) : chkM (parseM x).1 = true ∧ bytesM (parseM x).1 = x := by
  unfold parseM at *
  by_cases he : endE (readM x).2.2 (readM x).2.1.length = 0
  · rw [if_neg (by simpa using he)]
    obtain ⟨h1, h2⟩ := endE_0.1 he
    obtain ⟨g1, g2⟩ := readM_back x hx h1
    refine ⟨g1, ?_⟩
    rw [List.length_eq_zero_iff.1 h2, List.append_nil] at g2
    exact g2.symm
  · rw [if_pos he] at h
    exact absurd h he

/-- No message's bytes begin another one's. -/
theorem bytesM_prefix (a b : M4) (ha : chkM a = true) (hb : chkM b = true) (rest : List Int) (h : bytesM b = bytesM a ++ rest) : a = b := by
  have h1 := readM_bytes a rest ha
  have h2 := readM_bytes b [] hb
  rw [List.append_nil, h, h1] at h2
  injection h2

theorem fb_len (h : Bool) (n : Int) (hn : n < 72057594037927936) : (fb h n).length ≤ 8 := by
  unfold fb
  split
  · exact numB_len _ (by omega)
  · simp

theorem fb_range (h : Bool) (n : Int) (hn : n < 72057594037927936) : ∀ d ∈ fb h n, 0 ≤ d ∧ d ≤ 255 := by
  unfold fb
  split
  · exact numB_range _ (by omega)
  · intro d hd; simp at hd

end Go.Proofs.Ytleeafkkgepblaa.Oct
