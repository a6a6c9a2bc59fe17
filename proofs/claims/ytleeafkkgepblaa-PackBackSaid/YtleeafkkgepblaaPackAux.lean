/- Packets: what the readers' errors are, and small facts of rows of bytes. -/
import Derived.Test.YtleeafkkgepblaaPackPure
import Derived.Test.YtleeafkkgepblaaFrame
set_option linter.all false
set_option linter.unusedSimpArgs false
set_option maxRecDepth 100000
set_option maxHeartbeats 8000000
namespace Go.Proofs.Ytleeafkkgepblaa.Oct
open Go Go.RowKit Go.Proofs.Ytleeafkkgepblaa.Lift Go.Proofs.Ytleeafkkgepblaa.TPB Go.Proofs.Ytleeafkkgepblaa.Base Go.Proofs.Ytleeafkkgepblaa Go.Proofs.Ytleeafkkgepblaa.CrcC

theorem bytesRow_bs (x : List Int) (h : ∀ a ∈ x, 0 ≤ a ∧ a ≤ 255) : Lift.bytesRow (bs x) = enc (eInt .u8) x := by rw [bytesRow_eq, sb_bs x h]

theorem rdN_nn (r : List Int) (e m : Int) (hr : ∀ a ∈ r, 0 ≤ a ∧ a ≤ 255) : 0 ≤ (rdN r e m).1 := by
  have h1 := nxt_ok r m hr
  unfold rdN
  split
  · simp
  · split
    · simp
    · rename_i h; exact (h1 (by simpa using h)).2.2.1
theorem rdN_le (r : List Int) (e m : Int) (hr : ∀ a ∈ r, 0 ≤ a ∧ a ≤ 255) : (rdN r e m).2.1 ≤ r.length := by
  have h1 := nxt_ok r m hr
  unfold rdN
  split
  · simp
  · split
    · simp
    · rename_i h; exact (h1 (by simpa using h)).2.1
theorem rdL_le (r : List Int) (e m : Int) (hr : ∀ a ∈ r, 0 ≤ a ∧ a ≤ 255) : (rdL r e m).2.1 ≤ r.length := rdN_le r e m hr
theorem InR.next {x : List Int} {lo n k : Nat} (h : InR x lo n) (hk : k ≤ n) : InR x (lo + k) (n - k) := ⟨h.hx, by have := h.hlo; omega, h.hn⟩
theorem InR.len {x : List Int} {lo n : Nat} (h : InR x lo n) : (x.drop lo).length = n := by rw [List.length_drop]; have := h.hlo; omega
theorem InR.rg {x : List Int} {lo n : Nat} (h : InR x lo n) : ∀ a ∈ x.drop lo, 0 ≤ a ∧ a ≤ 255 := fun a ha => h.hx a (List.mem_of_mem_drop ha)

/-- One of the errors of a reader. -/
def E4 (e : Int) : Prop := e = 0 ∨ e = 2 ∨ e = 3 ∨ e = 4
theorem E4.wr {e : Int} (h : E4 e) : IntKind.i64.wrap e = e := by
  rcases h with rfl | rfl | rfl | rfl <;> rfl
theorem nxt_E4 (r : List Int) (m : Int) : E4 (nxt r m).2.2 := by
  unfold E4
  cases r with
  | nil => simp [nxt]
  | cons a t =>
    rw [nxt.eq_def]
    simp only []
    split
    · unfold capped; split <;> simp
    · split
      · simp
      · split
        · simp
        · split
          · simp
          · unfold capped; split <;> simp
theorem rdN_E4 (r : List Int) (e m : Int) (h : E4 e) : E4 (rdN r e m).2.2 := by
  unfold rdN
  split
  · exact h
  · split
    · exact nxt_E4 r m
    · exact .inl rfl
theorem rdL_E4 (r : List Int) (e m : Int) (h : E4 e) : E4 (rdL r e m).2.2 := by
  have := rdN_E4 r e m h
  unfold rdL
  simp only []
  split
  · split
    · exact .inr (.inr (.inl rfl))
    · exact this
  · exact this
theorem rdH_E4 (b l : Bool) (r : List Int) (e m : Int) (h : E4 e) : E4 (rdH b l r e m).2.2 := by
  unfold rdH
  split
  · split
    · exact rdL_E4 _ _ _ h
    · exact rdN_E4 _ _ _ h
  · exact h
theorem endE_E4 (e : Int) (n : Nat) (h : E4 e) : E4 (endE e n) := by
  unfold endE
  split
  · exact h
  · split
    · exact .inr (.inr (.inl rfl))
    · exact .inl rfl
theorem cutP_le (b : List Int) (h : (cutP b).2.2 = 0) : 4 ≤ (cutP b).2.1 ∧ (cutP b).2.1 ≤ b.length := by
  unfold cutP at *
  split at h
  · rename_i q; exact absurd h q
  · rename_i q
    rw [if_neg q]
    split at h
    · simp at h
    · rename_i q2
      rw [if_neg q2]
      split at h
      · rename_i q3
        rw [if_pos q3]
        simp only []
        omega
      · simp at h

theorem nxt_e' (r : List Int) (m : Int) : (nxt r m).2.2 = 0 ∨ (nxt r m).2.2 = 2 ∨ (nxt r m).2.2 = 3 ∨ (nxt r m).2.2 = 4 := by
  cases r with
  | nil => simp [nxt]
  | cons a t =>
    rw [nxt.eq_def]
    simp only []
    split
    · unfold capped; split <;> simp
    · split
      · simp
      · split
        · simp
        · split
          · simp
          · unfold capped; split <;> simp

theorem cutP_wr (b : List Int) : IntKind.i64.wrap (cutP b).2.2 = (cutP b).2.2 := by
  have h1 := nxt_e' b 4096
  unfold cutP
  split
  · have : (rdT b 0 4096).2.2 = 0 ∨ (rdT b 0 4096).2.2 = 2 ∨ (rdT b 0 4096).2.2 = 3 ∨ (rdT b 0 4096).2.2 = 4 := by
      unfold rdT
      split
      · exact .inl rfl
      · split
        · exact h1
        · split
          · exact .inr (.inl rfl)
          · exact .inl rfl
    rcases this with h | h | h | h <;> rw [h] <;> rfl
  · split
    · rfl
    · split <;> rfl

end Go.Proofs.Ytleeafkkgepblaa.Oct
