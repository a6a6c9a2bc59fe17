/- What the readers' code comes to: of bytes, by what is left and by the first error. -/
import Derived.Test.YtlopfjipndhpfabOctRead
set_option linter.unusedVariables false
set_option linter.unusedSimpArgs false
set_option maxRecDepth 100000
namespace Go.Proofs.Ytlopfjipndhpfab.Oct
open Go Go.RowKit Go.Proofs.Ytlopfjipndhpfab.Lift Go.Proofs.Ytlopfjipndhpfab.TM

/-- Bytes in a reader: those from 'lo' on are left. -/
structure InR (x : List Int) (lo n : Nat) : Prop where
  hx : ∀ a ∈ x, 0 ≤ a ∧ a ≤ 255
  hlo : lo + n = x.length
  hn : x.length < 100000

theorem nxt_ok (r : List Int) (m : Int) (hr : ∀ a ∈ r, 0 ≤ a ∧ a ≤ 255) (h : (nxt r m).2.2 = 0) : 1 ≤ (nxt r m).2.1 ∧ (nxt r m).2.1 ≤ r.length ∧ 0 ≤ (nxt r m).1 ∧ (nxt r m).1 < 72057594037927936 := by
  cases r with
  | nil => simp [nxt] at h
  | cons a t =>
    have ha := hr a (by simp)
    by_cases h1 : a < 248
    · simp only [nxt, if_pos h1, capped] at h ⊢
      split
      · rename_i hc; rw [if_pos hc] at h; simp at h
      · simp; omega
    · by_cases h2 : a = 255
      · simp [nxt, h2] at h
      · by_cases h3 : (t.length : Int) < a - 247
        · simp only [nxt, if_neg h1, if_neg h2, if_pos h3] at h; simp at h
        · have hv0 := valI_bound (t.take (a - 247).toNat) (fun d hd => hr d (by simp [List.mem_of_mem_take hd])) 0 (by omega)
          have hv1 : (256 : Int) ^ (t.take (a - 247).toNat).length ≤ 256 ^ 7 := by
            have : (t.take (a - 247).toNat).length ≤ 7 := by rw [List.length_take]; omega
            exact_mod_cast Nat.pow_le_pow_right (by omega) this
          simp only [nxt, if_neg h1, if_neg h2, if_neg h3] at h ⊢
          generalize valI 0 (t.take (a - 247).toNat) = q at h hv0 ⊢
          split
          · rename_i hc; rw [if_pos hc] at h; simp at h
          · rename_i hc
            rw [if_neg hc] at h
            simp only [capped] at h ⊢
            split
            · rename_i hd; rw [if_pos hd] at h; simp at h
            · simp; omega

/-- A number read. -/
def rdN (r : List Int) (e m : Int) : Int × Nat × Int := if e ≠ 0 then (0, 0, e) else if (nxt r m).2.2 ≠ 0 then (0, 0, (nxt r m).2.2) else ((nxt r m).1, (nxt r m).2.1, 0)
/-- A text read. -/
def rdT (r : List Int) (e m : Int) : List Int × Nat × Int := if e ≠ 0 then ([], 0, e) else if (nxt r m).2.2 ≠ 0 then ([], 0, (nxt r m).2.2) else
  if (r.length : Int) - (nxt r m).2.1 < (nxt r m).1 then ([], 0, 2) else ((r.drop (nxt r m).2.1).take (nxt r m).1.toNat, (nxt r m).2.1 + (nxt r m).1.toNat, 0)

theorem F14 {x : List Int} {lo n : Nat} (h : InR x lo n) (e m : Int) (v : Nat) : F T 14 [.ref 0 0 0, .int .i64 m] (HsR x lo n e v) = some (.int .i64 (rdN (x.drop lo) e m).1, HsR x (lo + (rdN (x.drop lo) e m).2.1) (n - (rdN (x.drop lo) e m).2.1) (rdN (x.drop lo) e m).2.2 v) := by
  by_cases he : e = 0
  · subst he
    obtain ⟨w, hF, hw⟩ := F31 x lo n v m h.hx h.hlo h.hn
    have hok := nxt_ok (x.drop lo) m (fun a ha => h.hx a (List.mem_of_mem_drop ha))
    have hlen : (x.drop lo).length = n := by rw [List.length_drop]; have := h.hlo; omega
    simp only [HsR] at hF
    have hr : rdN (x.drop lo) 0 m = if (nxt (x.drop lo) m).2.2 ≠ 0 then (0, 0, (nxt (x.drop lo) m).2.2) else ((nxt (x.drop lo) m).1, (nxt (x.drop lo) m).2.1, 0) := by simp [rdN]
    rw [hr]
    generalize nxt (x.drop lo) m = q at hF hw hok
    obtain ⟨a, k, c⟩ := q
    simp only [] at hF hw hok ⊢
    by_cases hc : c = 0
    · subst hc
      obtain rfl := hw rfl
      have hk : k ≤ n := by have := (hok rfl).2.1; omega
      exact F_call T14 (ex := .ret) (by simp [TM.c14, c14_b, HsR, callArgs, hF, hk]; rfl) (by simp) (by simp [TM.c14, HsR])
    · exact F_call T14 (ex := .ret) (by simp [TM.c14, c14_b, HsR, callArgs, hF, hc]; rfl) (by simp) (by simp [TM.c14, HsR, hc])
  · exact F_call T14 (ex := .ret) (by simp [TM.c14, c14_b, HsR, he]; rfl) (by simp) (by simp [TM.c14, HsR, rdN, he])

theorem F16 {x : List Int} {lo n : Nat} (h : InR x lo n) (e m : Int) (v : Nat) : F T 16 [.ref 0 0 0, .int .i64 m] (HsR x lo n e v) = some (.str (bs (rdT (x.drop lo) e m).1), HsR x (lo + (rdT (x.drop lo) e m).2.1) (n - (rdT (x.drop lo) e m).2.1) (rdT (x.drop lo) e m).2.2 v) := by
  by_cases he : e = 0
  · subst he
    obtain ⟨w, hF, hw⟩ := F31 x lo n v m h.hx h.hlo h.hn
    have hok := nxt_ok (x.drop lo) m (fun a ha => h.hx a (List.mem_of_mem_drop ha))
    have hlen : (x.drop lo).length = n := by rw [List.length_drop]; have := h.hlo; omega
    have hn := h.hn
    have hlo := h.hlo
    have f2 := F18 x lo n 0 2 v
    simp only [HsR, if_true] at hF f2
    have hr : rdT (x.drop lo) 0 m = if (nxt (x.drop lo) m).2.2 ≠ 0 then ([], 0, (nxt (x.drop lo) m).2.2) else if (n : Int) - (nxt (x.drop lo) m).2.1 < (nxt (x.drop lo) m).1 then ([], 0, 2) else (((x.drop lo).drop (nxt (x.drop lo) m).2.1).take (nxt (x.drop lo) m).1.toNat, (nxt (x.drop lo) m).2.1 + (nxt (x.drop lo) m).1.toNat, 0) := by simp only [rdT, hlen]; simp
    rw [hr]
    generalize nxt (x.drop lo) m = q at hF hw hok
    obtain ⟨a, k, c⟩ := q
    simp only [] at hF hw hok ⊢
    by_cases hc : c = 0
    · subst hc
      obtain rfl := hw rfl
      obtain ⟨h1, h2, h3, h4⟩ := hok rfl
      obtain ⟨p, rfl⟩ : ∃ p : Nat, a = p := ⟨a.toNat, by omega⟩
      have hk : k ≤ n := by omega
      have e1 : IntKind.i64.wrap ((n : Int) - k) = (n : Int) - k := wrap_id _ (by omega) (by omega)
      obtain ⟨q, hq⟩ : ∃ q, q = k + p := ⟨_, rfl⟩
      have e2 : IntKind.i64.wrap ((k : Int) + p) = (q : Int) := by rw [wrap_id _ (by omega) (by omega)]; omega
      by_cases h5 : (n : Int) - k < p
      · exact F_call T16 (ex := .ret) (by simp [TM.c16, c16_b, HsR, callArgs, hF, f2, e1, e2, h5]; rfl) (by simp) (by simp [TM.c16, HsR, h5]; rfl)
      · have h6 : q ≤ n := by omega
        have h6' : k ≤ q := by omega
        have h7 : lo + k + (q - k) ≤ x.length := by omega
        have h8 : q - k = p := by omega
        exact F_call T16 (ex := .ret) (by simp [TM.c16, c16_b, HsR, callArgs, hF, f2, e1, e2, h5, h6, h6', h7]; rfl) (by simp) (by simp [TM.c16, HsR, h5, h8, ← hq])
    · exact F_call T16 (ex := .ret) (by simp [TM.c16, c16_b, HsR, callArgs, hF, hc]; rfl) (by simp) (by simp [TM.c16, HsR, hc]; rfl)
  · exact F_call T16 (ex := .ret) (by simp [TM.c16, c16_b, HsR, he]; rfl) (by simp) (by simp [TM.c16, HsR, rdT, he]; rfl)

theorem F20 (x : List Int) (lo n v : Nat) (e : Int) : F T 20 [.ref 0 0 0] (HsR x lo n e v) = some (.int .i64 n, HsR x lo n e v) := by
  exact F_call T20 (ex := .ret) (by simp [TM.c20, c20_b, HsR]; rfl) (by simp) (by simp [TM.c20, HsR])
theorem F21 (x : List Int) (lo n v : Nat) (e : Int) : F T 21 [.ref 0 0 0] (HsR x lo n e v) = some (.int .i64 e, HsR x lo n e v) := by
  exact F_call T21 (ex := .ret) (by simp [TM.c21, c21_b, HsR]; rfl) (by simp) (by simp [TM.c21, HsR])
theorem F22 (x : List Int) (lo n v : Nat) (e : Int) : F T 22 [.ref 0 0 0] (HsR x lo n e v) = some (.int .i64 (if e ≠ 0 then e else if 0 < n then 3 else 0), HsR x lo n e v) := by
  have hF := F21 x lo n v e
  simp only [HsR] at hF
  by_cases he : e = 0
  · subst he
    by_cases hn : 0 < n
    · exact F_call T22 (ex := .ret) (by simp [TM.c22, c22_b, HsR, hF, callArgs, hn]; rfl) (by simp) (by simp [TM.c22, HsR, hn])
    · exact F_call T22 (ex := .ret) (by simp [TM.c22, c22_b, HsR, hF, callArgs, hn]; rfl) (by simp) (by simp [TM.c22, HsR, hn])
  · exact F_call T22 (ex := .ret) (by simp [TM.c22, c22_b, HsR, hF, callArgs, he]; rfl) (by simp) (by simp [TM.c22, HsR, he])

theorem N18 (c : Int) : F T 18 [.nilP, .int .i64 c] [] = some (.tup [], []) := by
  exact F_call T18 (ex := .normal) (by simp [TM.c18, c18_b]; rfl) (by simp) (by simp [TM.c18])
theorem N14 (c : Int) : F T 14 [.nilP, .int .i64 c] [] = some (.int .i64 0, []) := by
  exact F_call T14 (ex := .ret) (by simp [TM.c14, c14_b]; rfl) (by simp) (by simp [TM.c14])
theorem N16 (c : Int) : F T 16 [.nilP, .int .i64 c] [] = some (.str (bs []), []) := by
  exact F_call T16 (ex := .ret) (by simp [TM.c16, c16_b]; rfl) (by simp) (by simp [TM.c16]; rfl)
theorem N20 : F T 20 [.nilP] [] = some (.int .i64 0, []) := by
  exact F_call T20 (ex := .ret) (by simp [TM.c20, c20_b]; rfl) (by simp) (by simp [TM.c20])
theorem N21 : F T 21 [.nilP] [] = some (.int .i64 1, []) := by
  exact F_call T21 (ex := .ret) (by simp [TM.c21, c21_b]; rfl) (by simp) (by simp [TM.c21])
theorem N22 : F T 22 [.nilP] [] = some (.int .i64 1, []) := by
  exact F_call T22 (ex := .ret) (by simp [TM.c22, c22_b, N21, callArgs]; rfl) (by simp) (by simp [TM.c22])
theorem F13 (l : List Int) (b : Bool) (hl : l.length ≤ 100000) : F T 13 [.ro 1 (enc (eInt .u8) l) b] [] = some (.ref 0 0 0, HsR l 0 l.length 0 0) := by
  have e1 : l.length ≤ 140737488355328 := by omega
  exact F_call T13 (ex := .ret) (by simp [TM.c13, c13_b, e1]; rfl) (by simp) (by simp [TM.c13, HsR])
end Go.Proofs.Ytlopfjipndhpfab.Oct
