/- What the readers' code comes to: of bytes, by what is left and by the first error. -/
import Derived.Test.YtlopfjipndhpfabOctNum
set_option linter.unusedVariables false
set_option linter.unusedSimpArgs false
set_option maxRecDepth 100000
namespace Go.Proofs.Ytlopfjipndhpfab.Oct
open Go Go.RowKit Go.Proofs.Ytlopfjipndhpfab.Lift Go.Proofs.Ytlopfjipndhpfab.TM

def HsR (x : List Int) (lo n : Nat) (e : Int) (v : Nat) : List AObj := [⟨56, 3, true, [[.own 1 lo n, .int .i64 e, .bool true]], 0⟩, ⟨5, 1, false, enc (eInt .u8) x, v⟩]

theorem F18 (x : List Int) (lo n : Nat) (e c : Int) (v : Nat) : F T 18 [.ref 0 0 0, .int .i64 c] (HsR x lo n e v) = some (.tup [], HsR x lo n (if e = 0 then c else e) v) := by
  by_cases h : e = 0
  · exact F_call T18 (ex := .normal) (by simp [TM.c18, c18_b, HsR, h]; rfl) (by simp) (by simp [TM.c18, HsR, h, List.eraseDups_cons])
  · exact F_call T18 (ex := .normal) (by simp [TM.c18, c18_b, HsR, h]; rfl) (by simp) (by simp [TM.c18, HsR, h, List.eraseDups_cons])

theorem F37 (x : List Int) (lo n : Nat) (a m : Int) (v : Nat) : F T 37 [.ref 0 0 0, .int .i64 a, .int .i64 m] (HsR x lo n 0 v) = some (.int .i64 (if m < a ∧ 0 < a then 0 else a), HsR x lo n (if m < a ∧ 0 < a then 4 else 0) v) := by
  have hF := F18 x lo n 0 4 v
  simp only [HsR, if_true] at hF
  by_cases h : (if m < 0 then 0 else m) < a
  · have h' : m < a ∧ 0 < a := by split at h <;> omega
    exact F_call T37 (ex := .ret) (by simp [TM.c37, c37_b, HsR, h, hF, callArgs]; rfl) (by simp) (by simp [TM.c37, HsR, h'])
  · have h' : ¬ (m < a ∧ 0 < a) := by split at h <;> omega
    exact F_call T37 (ex := .ret) (by simp [TM.c37, c37_b, HsR, h]; rfl) (by simp) (by simp [TM.c37, HsR, h'])

def valI (a : Int) (ds : List Int) : Int := ds.foldl (fun a d => a * 256 + d) a

def cs31 (x : List Int) (lo n v : Nat) (m w a i : Int) : ASt := ⟨[.ref 0 0 0, .int .i64 m, .top, .top, .top, .top, .top, .int .i64 w, .int .i64 a, .top, .top, .top, .top, .top, .top, .top, .top, .top, .top, .top, .top, .top, .top, .top, .top, .top, .top, .top, .top, .top, .top, .top, .top, .top, .top, .top, .top, .top, .top, .top, .top, .top, .top, .top, .top, .top, .top, .top, .top, .top, .int .i64 w, .int .i64 i, .top, .top, .top, .top, .top, .top, .top, .top, .top, .top, .top, .top, .top, .top, .top, .top, .top, .top, .top, .top, .top, .top, .top, .top, .top, .top, .top, .top, .top, .top, .top], [(0, ⟨56, 3, true, [[.own 1 lo n, .int .i64 0, .bool true]], 0⟩), (1, ⟨5, 1, false, enc (eInt .u8) x, v⟩)], 2, 2⟩
def ex31 (x : List Int) (lo n v : Nat) (m w a : Int) : ASt := ⟨[.ref 0 0 0, .int .i64 m, .top, .top, .top, .top, .top, .int .i64 w, .int .i64 a, .top, .top, .top, .top, .top, .top, .top, .top, .top, .top, .top, .top, .top, .top, .top, .top, .top, .top, .top, .top, .top, .top, .top, .top, .top, .top, .top, .top, .top, .top, .top, .top, .top, .top, .top, .top, .top, .top, .top, .top, .top, .int .i64 w, .int .i64 w, .bool false, .top, .top, .top, .top, .top, .top, .top, .top, .top, .top, .top, .top, .top, .top, .top, .top, .top, .top, .top, .top, .top, .top, .top, .top, .top, .top, .top, .top, .top, .top], [(0, ⟨56, 3, true, [[.own 1 lo n, .int .i64 0, .bool true]], 0⟩), (1, ⟨5, 1, false, enc (eInt .u8) x, v⟩)], 66, 2⟩

theorem or_add (a b : Int) (ha : 0 ≤ a) (ha' : a < 36028797018963968) (hb : 0 ≤ b) (hb' : b < 256) : IntKind.i64.wrap ((((a * 256) % 18446744073709551616).toNat ||| (b % 18446744073709551616).toNat : Nat) : Int) = a * 256 + b := by
  obtain ⟨p, rfl⟩ : ∃ p : Nat, a = p := ⟨a.toNat, by omega⟩
  obtain ⟨q, rfl⟩ : ∃ q : Nat, b = q := ⟨b.toNat, by omega⟩
  have e1 : (((p : Int) * 256) % 18446744073709551616).toNat = 2 ^ 8 * p := by omega
  have e2 : ((q : Int) % 18446744073709551616).toNat = q := by omega
  rw [e1, e2, ← Nat.two_pow_add_eq_or_of_lt (by omega), wrap_id _ (by omega) (by omega)]
  omega

theorem l31 (x : List Int) (lo n v : Nat) (m : Int) (hx : ∀ a ∈ x, 0 ≤ a ∧ a ≤ 255) (hlo : lo + n = x.length) (hn : x.length < 100000) (w : Nat) (hw : w ≤ 7) (hw1 : 1 + w ≤ n) (k : Nat) : ∀ (i : Nat) (a : Int) (st : ASt), i + k = w → 0 ≤ a → a < 256 ^ i → canon [0, 1, 7, 8, 50, 51] st = cs31 x lo n v m w a i →
    Lp T [0, 1, 7, 8, 50, 51] c31_l0 st = some (.exit 1, ex31 x lo n v m w (valI a ((x.drop (lo + 1 + i)).take k))) := by
  induction k with
  | zero =>
    intro i a st h1 h2 h3 hc
    obtain rfl : i = w := by omega
    exact Lp_exit (by rw [hc]; simp [cs31, ex31, c31_l0, valI]) (by simp)
  | succ k ih =>
    intro i a st h1 h2 h3 hc
    have hi : i < w := by omega
    have hl : lo + (1 + i) < x.length := by omega
    have e0 : (256 : Int) ^ i ≤ 256 ^ 6 := by exact_mod_cast Nat.pow_le_pow_right (by omega) (by omega : i ≤ 6)
    have e1 : IntKind.i64.wrap (1 + (i : Int)) = 1 + (i : Int) := wrap_id _ (by omega) (by omega)
    have e1' : IntKind.i64.wrap ((i : Int) + 1) = (i : Int) + 1 := wrap_id _ (by omega) (by omega)
    have e2 : (0 : Int) ≤ 1 + (i : Int) ∧ 1 + (i : Int) < n := by omega
    have e3 : (1 + (i : Int)).toNat = 1 + i := by omega
    have hb := hx _ (List.getElem_mem hl)
    have e4 : IntKind.i64.wrap x[lo + (1 + i)] = x[lo + (1 + i)] := wrap_id _ (by omega) (by omega)
    have e5 : IntKind.u64.wrap 8 = 8 := rfl
    have e6 : IntKind.i64.wrap (a * 256) = a * 256 := wrap_id _ (by omega) (by omega)
    have e7 : IntKind.i64.bits = 64 := rfl
    have e8 := or_add a x[lo + (1 + i)] h2 (by omega) hb.1 (by omega)
    have hb : ∃ s, acode (F T) (Lp T) c31_l0 (cs31 x lo n v m w a i) = some (.normal, s) ∧ canon [0, 1, 7, 8, 50, 51] s = cs31 x lo n v m w (a * 256 + x[lo + (1 + i)]) (i + 1 : Nat) := by
      refine ⟨_, by simp [cs31, c31_l0, hi, hl, e1, e1', e2, e3, e4, e5, e6, e7]; rfl, ?_⟩
      simp [cs31, e8]
    obtain ⟨s, hs, hc'⟩ := hb
    have hp : (256 : Int) ^ (i + 1) = 256 ^ i * 256 := Int.pow_succ _ _
    have hn := ih (i + 1) (a * 256 + x[lo + (1 + i)]) s (by omega) (by omega) (by omega) hc'
    rw [Lp_next (by rw [hc]; exact hs) hn]
    have e9 : (x.drop (lo + 1 + i)).take (k + 1) = x[lo + (1 + i)] :: (x.drop (lo + 1 + (i + 1))).take k := by
      rw [List.drop_eq_getElem_cons (by omega), List.take_succ_cons]
      simp [Nat.add_assoc]
    rw [e9]
    rfl

def capped (n most : Int) (w : Nat) : Int × Nat × Int := if most < n ∧ 0 < n then (0, 0, 4) else (n, w, 0)
/-- The number with which bytes begin, how many bytes it has, what is wrong. -/
def nxt (r : List Int) (most : Int) : Int × Nat × Int :=
  match r with
  | [] => (0, 0, 2)
  | a :: t => if a < 248 then capped a most 1 else if a = 255 then (0, 0, 3) else
    if (t.length : Int) < a - 247 then (0, 0, 2) else
    if valI 0 (t.take (a - 247).toNat) < 248 ∨ ((dig (valI 0 (t.take (a - 247).toNat)).toNat).length : Int) ≠ a - 247 then (0, 0, 3) else capped (valI 0 (t.take (a - 247).toNat)) most (1 + (a - 247).toNat)

theorem valI_bound (ds : List Int) (hd : ∀ d ∈ ds, 0 ≤ d ∧ d ≤ 255) : ∀ a : Int, 0 ≤ a → 0 ≤ valI a ds ∧ valI a ds < (a + 1) * 256 ^ ds.length := by
  induction ds with
  | nil => intro a h; simp [valI]; omega
  | cons d t ih =>
    intro a h
    have := hd d (by simp)
    obtain ⟨h1, h2⟩ := ih (fun d h => hd d (by simp [h])) (a * 256 + d) (by omega)
    refine ⟨h1, ?_⟩
    have h3 : valI a (d :: t) = valI (a * 256 + d) t := rfl
    rw [h3, List.length_cons, Int.pow_succ]
    refine Int.lt_of_lt_of_le h2 ?_
    rw [Int.mul_comm (256 ^ t.length) 256, ← Int.mul_assoc]
    exact Int.mul_le_mul_of_nonneg_right (by omega) (Int.pow_nonneg (by omega))

set_option maxHeartbeats 2000000 in
theorem F31 (x : List Int) (lo n v : Nat) (m : Int) (hx : ∀ a ∈ x, 0 ≤ a ∧ a ≤ 255) (hlo : lo + n = x.length) (hn : x.length < 100000) : ∃ w : Int, F T 31 [.ref 0 0 0, .int .i64 m] (HsR x lo n 0 v) = some (.tup [.int .i64 (nxt (x.drop lo) m).1, .int .i64 w], HsR x lo n (nxt (x.drop lo) m).2.2 v) ∧ ((nxt (x.drop lo) m).2.2 = 0 → w = (nxt (x.drop lo) m).2.1) := by
  have f2 := F18 x lo n 0 2 v
  have f3 := F18 x lo n 0 3 v
  simp only [HsR, if_true] at f2 f3
  have f37 := fun a => F37 x lo n a m v
  simp only [HsR] at f37
  by_cases h0 : n = 0
  · have e : x.drop lo = [] := List.drop_eq_nil_of_le (by omega)
    subst h0
    refine ⟨0, F_call T31 (ex := .ret) (by simp [TM.c31, c31_b, HsR, f2, callArgs]; rfl) (by simp) (by simp [TM.c31, HsR, e, nxt]), by simp [e, nxt]⟩
  · have hl : lo < x.length := by omega
    have hp : 0 < n := by omega
    have e : x.drop lo = x[lo] :: x.drop (lo + 1) := List.drop_eq_getElem_cons hl
    have hb := hx _ (List.getElem_mem hl)
    have hnxt : nxt (x.drop lo) m = nxt (x[lo] :: x.drop (lo + 1)) m := by rw [e]
    have e1 : IntKind.i64.wrap x[lo] = x[lo] := wrap_id _ (by omega) (by omega)
    rw [hnxt]
    by_cases h1 : x[lo] < 248
    · refine ⟨1, F_call T31 (ex := .ret) (by simp [TM.c31, c31_b, HsR, h0, hp, hl, e1, h1, f37, callArgs]; rfl) (by simp) ?_, by simp [nxt, h1, capped]; split <;> simp⟩
      simp [TM.c31, HsR, nxt, h1, capped]
      split <;> simp
    · have hw' : ∃ w : Nat, x[lo] = w + 247 ∧ 1 ≤ w ∧ w ≤ 8 := ⟨(x[lo] - 247).toNat, by omega, by omega, by omega⟩
      obtain ⟨w, hw, hw1, hw8⟩ := hw'
      have e2 : IntKind.i64.wrap (x[lo] - 248) = x[lo] - 248 := wrap_id _ (by omega) (by omega)
      have e3 : IntKind.i64.wrap (x[lo] - 248 + 1) = w := by rw [wrap_id _ (by omega) (by omega)]; omega
      have e4 : IntKind.i64.wrap (1 + (w : Int)) = 1 + (w : Int) := wrap_id _ (by omega) (by omega)
      have e5 : (x[lo] - 247).toNat = w := by omega
      have e6 : x[lo] - 247 = (w : Int) := by omega
      have htl : (x.drop (lo + 1)).length = n - 1 := by rw [List.length_drop]; omega
      by_cases h7 : (7 : Int) < w
      · have h255 : x[lo] = 255 := by omega
        exact ⟨0, F_call T31 (ex := .ret) (by simp [TM.c31, c31_b, HsR, h0, hp, hl, e1, h1, e2, e3, h7, f3, callArgs]; rfl) (by simp) (by simp [TM.c31, HsR, nxt, h255]), by simp [nxt, h255]⟩
      · have h255 : ¬ x[lo] = 255 := by omega
        by_cases h8 : (n : Int) < 1 + w
        · have h9 : ((x.drop (lo + 1)).length : Int) < x[lo] - 247 := by omega
          have hr : nxt (x[lo] :: x.drop (lo + 1)) m = (0, 0, 2) := by unfold nxt; simp only []; rw [if_neg h1, if_neg h255, if_pos h9]
          rw [hr]
          exact ⟨0, F_call T31 (ex := .ret) (by simp [TM.c31, c31_b, HsR, h0, hp, hl, e1, h1, e2, e3, e4, h7, h8, f2, callArgs]; rfl) (by simp) (by simp [TM.c31, HsR]), by simp⟩
        · have h9 : ¬ ((x.drop (lo + 1)).length : Int) < x[lo] - 247 := by omega
          have hv0 := valI_bound ((x.drop (lo + 1)).take w) (fun d hd => hx d (List.mem_of_mem_drop (List.mem_of_mem_take hd))) 0 (by omega)
          have hv1 : (256 : Int) ^ ((x.drop (lo + 1)).take w).length ≤ 256 ^ 7 := by
            have : ((x.drop (lo + 1)).take w).length ≤ 7 := by rw [List.length_take]; omega
            exact_mod_cast Nat.pow_le_pow_right (by omega) this
          have hL := l31 x lo n v m hx hlo hn w (by omega) (by omega) w 0 0
          rw [Nat.add_zero] at hL
          have hr : nxt (x[lo] :: x.drop (lo + 1)) m = if valI 0 ((x.drop (lo + 1)).take w) < 248 ∨ ((dig (valI 0 ((x.drop (lo + 1)).take w)).toNat).length : Int) ≠ w then (0, 0, 3) else capped (valI 0 ((x.drop (lo + 1)).take w)) m (1 + w) := by
            rw [nxt.eq_def]; simp only []; rw [if_neg h1, if_neg h255, if_neg h9, e5, e6]
          rw [hr]
          generalize valI 0 ((x.drop (lo + 1)).take w) = a at hL hv0
          obtain ⟨p, rfl⟩ : ∃ p : Nat, a = p := ⟨a.toNat, by omega⟩
          have hp1 : p < 72057594037927936 := by omega
          have f29 := F29 p hp1
          by_cases h10 : (p : Int) < 248
          · rw [if_pos (.inl h10)]
            exact ⟨0, F_call T31 (ex := .ret) (by simp [TM.c31, c31_b, HsR, h0, hp, hl, e1, h1, e2, e3, e4, h7, h8]; rw [hL _ (by omega) (by omega) (by omega) ?_]; simp [ex31, h10, f3, callArgs]; rfl; simp [cs31]) (by simp) (by simp [TM.c31, HsR]), by simp⟩
          · by_cases h11 : ((dig p).length : Int) = w
            · rw [if_neg (by rintro (h | h); exact h10 h; exact h h11)]
              refine ⟨1 + w, F_call T31 (ex := .ret) (by simp [TM.c31, c31_b, HsR, h0, hp, hl, e1, h1, e2, e3, e4, h7, h8]; rw [hL _ (by omega) (by omega) (by omega) ?_]; simp [ex31, h10, f29, h11, f37, e4, callArgs]; rfl; simp [cs31]) (by simp) ?_, ?_⟩
              · simp [TM.c31, HsR, capped]
                split <;> simp
              · simp only [capped]; split <;> simp
            · rw [if_pos (.inr h11)]
              exact ⟨0, F_call T31 (ex := .ret) (by simp [TM.c31, c31_b, HsR, h0, hp, hl, e1, h1, e2, e3, e4, h7, h8]; rw [hL _ (by omega) (by omega) (by omega) ?_]; simp [ex31, h10, f29, h11, f3, callArgs]; rfl; simp [cs31]) (by simp) (by simp [TM.c31, HsR]), by simp⟩
end Go.Proofs.Ytlopfjipndhpfab.Oct
