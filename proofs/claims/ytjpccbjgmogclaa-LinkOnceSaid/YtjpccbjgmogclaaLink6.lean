/- Two ends, and what is under way: any act. -/
import Derived.Test.YtjpccbjgmogclaaLink5a
import Derived.Test.YtjpccbjgmogclaaLink5b
import Derived.Test.YtjpccbjgmogclaaLink5c
import Derived.Test.YtjpccbjgmogclaaLink5d
import Derived.Test.YtjpccbjgmogclaaLink5e
set_option linter.all false
set_option linter.unusedSimpArgs false
set_option maxRecDepth 100000
set_option maxHeartbeats 8000000
namespace Go.Proofs.Ytjpccbjgmogclaa.Link
attribute [-simp] Go.Proofs.Ytjpccbjgmogclaa.Lift.unf1
open Go Go.RowKit Go.Proofs.Ytjpccbjgmogclaa.Lift Go.Proofs.Ytjpccbjgmogclaa.TLK Go.Proofs.Ytjpccbjgmogclaa.Base Go.Proofs.Ytjpccbjgmogclaa Go.Proofs.Ytjpccbjgmogclaa.Sent


theorem datL_len (e : Ed) (b : Bool) : (datL e b).length ≤ 1 := by unfold datL; split <;> simp

theorem takE_len (e : Ed) (p : Pt) : (takE e p).2.2.2.length ≤ 2 := by
  have h1 : (lrnE e p.inc).2.length ≤ 1 := datL_len _ _
  unfold takE
  split
  · simp
  split
  · unfold takD
    simp only []
    repeat' split
    all_goals simp
    all_goals omega
  split
  · unfold takA
    simp only []
    split
    · simp
    · simp only [List.length_append]
      exact Nat.add_le_add h1 (datL_len _ _)
  split
  · unfold takH
    split
    · simp only []; omega
    · simp
  · simp

/-- How what is under way lies there, behind an act. -/
def WF2 (P : Pr) (w : AV) (objs : List AObj) : Prop :=
  WF P w objs ∨ ∃ x v v', w = .own 2 0 P.way.length ∧ objs = [⟨44, 7, false, enc ePt x, v⟩, ⟨44, 7, false, enc ePt P.way, v'⟩]

/-- A packet comes. -/
def comesP (P : Pr) (p : Pt) : Pr := if p.to = 0 then comesP0 P p else comesP1 P p
def cut (P : Pr) (i : Nat) : Pr := { P with way := P.way.take i ++ P.way.drop (i + 1) }

/-- What an act may come to. -/
inductive DoesR (P : Pr) : Pr → Prop where
  | p0 : DoesR P (putsP0 P)
  | p1 : DoesR P (putsP1 P)
  | t0 : DoesR P (ticksP0 P)
  | t1 : DoesR P (ticksP1 P)
  | no : DoesR P P
  | lost (i : Nat) (h : i < P.way.length) : DoesR P (cut P i)
  | come (p : Pt) (h : p ∈ P.way) : DoesR P (comesP P p)
  | cutc (i : Nat) (h : i < P.way.length) : DoesR P (comesP (cut P i) P.way[i])

/-- The texts that come are those that are due. -/
def Due (P : Pr) : Prop := ∀ p ∈ P.way, (p.to = 0 → (takE P.a p).2.2.1 = true → (takE P.a p).2.1 = nm P.c1 ∧ P.c1 < P.p1) ∧ (¬ p.to = 0 → (takE P.b p).2.2.1 = true → (takE P.b p).2.1 = nm P.c0 ∧ P.c0 < P.p0)

theorem wrap_u64 (x : Int) : 0 ≤ IntKind.u64.wrap x ∧ (0 ≤ x → x < 18446744073709551616 → IntKind.u64.wrap x = x) := by
  simp only [IntKind.wrap]
  simp [IntKind.bits, IntKind.signed]
  omega

theorem pick (n : Int) (len : Nat) (h : 0 < len) (hl : len ≤ 1000000) : ∃ i : Nat, i < len ∧ (IntKind.u64.wrap n).tmod (len : Int) = (i : Int) := by
  have h1 := (wrap_u64 n).1
  generalize IntKind.u64.wrap n = u at *
  rw [Int.tmod_eq_emod_of_nonneg h1]
  have h2 : 0 ≤ u % (len : Int) := Int.emod_nonneg _ (by omega)
  have h3 : u % (len : Int) < len := Int.emod_lt_of_pos _ (by omega)
  obtain ⟨i, hi⟩ := Int.eq_ofNat_of_zero_le h2
  exact ⟨i, by omega, hi⟩

@[simp] theorem enc_setPt (l : List Pt) (j : Nat) (k f t i p s : Int) (b : ByteArray) : (enc ePt l).set j [AV.int .i64 k, .int .i64 f, .int .i64 t, .int .i64 i, .int .i64 p, .int .i64 s, .str b] = enc ePt (l.set j ⟨k, f, t, i, p, s, b⟩) := enc_set ePt l j ⟨k, f, t, i, p, s, b⟩

theorem Sm.cut {P : Pr} (h : Sm P) (i : Nat) : Sm (cut P i) := ⟨h.a, h.b, by have := h.w; unfold Link.cut; simp; omega, h.p0, h.p1, h.c0, h.c1⟩

end Go.Proofs.Ytjpccbjgmogclaa.Link
