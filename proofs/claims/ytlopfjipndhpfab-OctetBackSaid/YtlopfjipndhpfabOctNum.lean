/- What the code of the number and of the string comes to: bytes before, then the digits to the base 256. -/
import Derived.Test.YtlopfjipndhpfabTM
import Derived.Test.YtlopfjipndhpfabLiftS
set_option linter.unusedVariables false
set_option linter.unusedSimpArgs false
set_option maxRecDepth 100000
namespace Go.Proofs.Ytlopfjipndhpfab.Oct
open Go Go.RowKit Go.Proofs.Ytlopfjipndhpfab.Lift Go.Proofs.Ytlopfjipndhpfab.TM

/-- Digits to the base 256, the greatest first. -/
def dig (n : Nat) : List Int := if h : n < 256 then [(n : Int)] else dig (n / 256) ++ [((n % 256 : Nat) : Int)]
termination_by n
decreasing_by omega

theorem dig_small {n : Nat} (h : n < 256) : dig n = [(n : Int)] := by rw [dig, dif_pos h]
theorem dig_step {n : Nat} (h : ¬ n < 256) : dig n = dig (n / 256) ++ [((n % 256 : Nat) : Int)] := by rw [dig, dif_neg h]
theorem dig_pos (n : Nat) : 1 ≤ (dig n).length := by
  by_cases h : n < 256
  · rw [dig_small h]; simp
  · rw [dig_step h]; simp
theorem dig_len (k : Nat) : ∀ n, n < 256 ^ (k + 1) → (dig n).length ≤ k + 1 := by
  induction k with
  | zero => intro n h; rw [dig_small (by omega)]; simp
  | succ k ih =>
    intro n h
    by_cases h' : n < 256
    · rw [dig_small h']; simp
    · rw [dig_step h']
      have := ih (n / 256) (by rw [Nat.pow_succ] at h; omega)
      simp; omega

theorem wrap_id (n : Int) (h0 : -9223372036854775808 ≤ n) (h1 : n ≤ 9223372036854775807) : IntKind.i64.wrap n = n := by
  rw [IntKind.wrap_i64]; omega

def cs29 (n w : Int) : ASt := ⟨[.int .i64 n, .top, .top, .int .i64 w, .top, .top, .top, .top, .top, .top, .top], [], 0, 0⟩

theorem l29 (k : Nat) : ∀ (n : Nat) (w : Int) (st : ASt), n < 256 ^ (k + 1) → n < 72057594037927936 → 0 ≤ w → w + k < 1000 → canon [0, 3] st = cs29 n w →
    ∃ n' : Int, Lp T [0, 3] c29_l0 st = some (.exit 0, ⟨[.int .i64 n', .top, .top, .int .i64 (w + (dig n).length - 1), .int .i64 n', .bool false, .top, .top, .top, .top, .top], [], 128, 0⟩) := by
  induction k with
  | zero =>
    intro n w st h1 hb h2 h3 hc
    have : ¬ (256 : Int) ≤ n := by omega
    refine ⟨n, Lp_exit ?_ (by simp)⟩
    rw [hc, dig_small (by omega)]
    simp [cs29, c29_l0, this]
  | succ k ih =>
    intro n w st h1 hb h2 h3 hc
    by_cases h : n < 256
    · have : ¬ (256 : Int) ≤ n := by omega
      refine ⟨n, Lp_exit ?_ (by simp)⟩
      rw [hc, dig_small h]
      simp [cs29, c29_l0, this]
    · have h' : (256 : Int) ≤ n := by omega
      have e1 : IntKind.i64.wrap ((n : Int) / 256) = (n : Int) / 256 := wrap_id _ (by omega) (by omega)
      have e2 : IntKind.i64.wrap (w + 1) = w + 1 := wrap_id _ (by omega) (by omega)
      have hb : ∃ s, acode (F T) (Lp T) c29_l0 (cs29 n w) = some (.normal, s) ∧ canon [0, 3] s = cs29 (n / 256 : Nat) (w + 1) := by
        refine ⟨_, by simp [cs29, c29_l0, h', e1, e2]; rfl, ?_⟩
        simp [cs29]
      obtain ⟨s, hs, hc'⟩ := hb
      obtain ⟨n', hn⟩ := ih (n / 256) (w + 1) s (by rw [Nat.pow_succ] at h1; omega) (by omega) (by omega) (by omega) hc'
      refine ⟨n', Lp_next (by rw [hc]; exact hs) ?_⟩
      rw [hn, dig_step h]
      simp
      omega

theorem F29 (n : Nat) (h : n < 72057594037927936) : F T 29 [.int .i64 n] [] = some (.int .i64 (dig n).length, []) := by
  obtain ⟨n', hn⟩ := l29 6 n 1 (st := ⟨[.int .i64 n, .top, .int .i64 0, .int .i64 1, .top, .top, .top, .top, .top, .top, .top], [], 128, 0⟩) h h (by omega) (by omega) (by simp [cs29])
  refine F_call T29 (ex := .ret) (by simp [c29, c29_b, hn]; rfl) (by simp) (by simp [c29]; omega)
def cs30 (n : Int) (l : List Int) : ASt := ⟨[.int .i64 n, .top, .top, .str (bs l), .top, .top, .top, .top, .top, .top, .top, .top, .top, .top, .top, .top, .top, .top, .top, .top], [], 0, 0⟩
def D (n : Nat) (l : List Int) : List Int := if n = 0 ∧ l ≠ [] then l else dig n ++ l

theorem wrap8 (x : Int) (h : 0 ≤ x) : IntKind.u8.wrap x = x % 256 := by rw [IntKind.wrap_u8]

def ex30 (n : Nat) (l : List Int) : ASt := ⟨[.int .i64 0, .top, .top, .str (bs (D n l)), .int .i64 0, .bool false, .bool false, .str (bs (D n l)), .bool false, .bool false, .top, .top, .top, .top, .top, .top, .top, .top, .top, .top], [], 384, 0⟩

theorem l30 (k : Nat) : ∀ (n : Nat) (l : List Int) (st : ASt), n < 256 ^ k → n < 72057594037927936 → (n ≠ 0 ∨ l ≠ []) → l.length + k < 1000 → canon [0, 3] st = cs30 n l →
    Lp T [0, 3] c30_l0 st = some (.exit 0, ex30 n l) := by
  induction k with
  | zero =>
    intro n l st h1 hb h2 h3 hc
    obtain rfl : n = 0 := by omega
    have h2 : l ≠ [] := by simpa using h2
    exact Lp_exit (by rw [hc]; simp [cs30, ex30, D, c30_l0, h2]) (by simp)
  | succ k ih =>
    intro n l st h1 hb h2 h3 hc
    by_cases h : n = 0
    · subst h
      have h2 : l ≠ [] := by simpa using h2
      exact Lp_exit (by rw [hc]; simp [cs30, ex30, D, c30_l0, h2]) (by simp)
    · have h' : 0 < n := by omega
      have e1 : IntKind.i64.wrap ((n : Int) / 256) = (n : Int) / 256 := wrap_id _ (by omega) (by omega)
      have e2 : IntKind.u8.wrap ((n : Int).tmod 256) = (n : Int) % 256 := by rw [Int.tmod_eq_emod_of_nonneg (by omega), wrap8 _ (by omega)]; omega
      have e3 : 1 + l.length ≤ 4611686018427387904 := by omega
      have hb : ∃ s, acode (F T) (Lp T) c30_l0 (cs30 n l) = some (.normal, s) ∧ canon [0, 3] s = cs30 (n / 256 : Nat) ((n : Int) % 256 :: l) := by
        refine ⟨_, by simp [cs30, c30_l0, h', e1, e2, e3]; rfl, ?_⟩
        simp [cs30, ← bs_append]
      obtain ⟨s, hs, hc'⟩ := hb
      have hn := ih (n / 256) ((n : Int) % 256 :: l) s (by rw [Nat.pow_succ] at h1; omega) (by omega) (by simp) (by simp; omega) hc'
      rw [Lp_next (by rw [hc]; exact hs) hn]
      have : D (n / 256) ((n : Int) % 256 :: l) = D n l := by
        simp only [D]
        rw [if_neg (c := n = 0 ∧ l ≠ []) (fun h0 => h h0.1)]
        by_cases h5 : n < 256
        · rw [if_pos ⟨by omega, by simp⟩, dig_small h5]; simp; omega
        · rw [if_neg (by omega), dig_step h5]; simp
      rw [ex30, this]
      rfl

theorem F30 (n : Nat) (h : n < 72057594037927936) (h0 : n ≠ 0) : F T 30 [.int .i64 n] [] = some (.str (bs (dig n)), []) := by
  have hn := l30 7 n [] (st := ⟨[.int .i64 n, .top, .str (bs []), .str (bs []), .top, .top, .top, .top, .top, .top, .top, .top, .top, .top, .top, .top, .top, .top, .top, .top], [], 128, 0⟩) (by omega) h (.inl h0) (by simp) (by simp [cs30])
  have e : D n [] = dig n := by simp [D]
  refine F_call T30 (ex := .ret) (by simp [c30, c30_b]; rw [show (⟨⟨[]⟩⟩ : ByteArray) = bs [] from rfl, hn]; simp [ex30]; rfl) (by simp) (by simp [c30, e])

def numB (m : Nat) : List Int := if m < 248 then [(m : Int)] else (247 + (dig m).length : Int) :: dig m
def clampN (n : Int) : Nat := (min (max n 0) 72057594037927935).toNat

theorem dig_le (m : Nat) (h : m < 72057594037927936) : (dig m).length ≤ 7 := dig_len 6 m h

theorem F11 (n : Int) : F T 11 [.int .i64 n] [] = some (.str (bs (numB (clampN n))), []) := by
  have key : ∀ m : Nat, ¬ m < 248 → m < 72057594037927936 → IntKind.i64.wrap (247 + (dig m).length) = 247 + (dig m).length ∧ IntKind.u8.wrap (247 + (dig m).length) = 247 + (dig m).length ∧ 1 + (dig m).length ≤ 4611686018427387904 := fun m h h' => by
    have := dig_le m h'
    exact ⟨wrap_id _ (by omega) (by omega), by rw [wrap8 _ (by omega)]; omega, by omega⟩
  by_cases h1 : n < 0
  · have e : clampN n = 0 := by simp only [clampN]; omega
    have h2 : IntKind.u8.wrap 0 = 0 := rfl
    rw [e]
    exact F_call T11 (ex := .ret) (by simp [c11, c11_b, h1, h2]; rfl) (by simp) (by simp [c11, numB])
  · by_cases h2 : 72057594037927935 < n
    · have e : clampN n = 72057594037927935 := by simp only [clampN]; omega
      obtain ⟨k1, k2, k3⟩ := key 72057594037927935 (by omega) (by omega)
      have hF := F30 72057594037927935 (by omega) (by omega)
      rw [show ((72057594037927935 : Nat) : Int) = 72057594037927935 from rfl] at hF
      rw [e]
      exact F_call T11 (ex := .ret) (by simp [c11, c11_b, h1, h2, callArgs_none, hF, k1, k2, k3]; rfl) (by simp) (by simp [c11, numB, ← bs_append])
    · by_cases h3 : n < 248
      · have e : clampN n = n.toNat := by simp only [clampN]; omega
        have h4 : IntKind.u8.wrap n = n := by rw [wrap8 _ (by omega)]; omega
        have h5 : n.toNat < 248 := by omega
        rw [e]
        exact F_call T11 (ex := .ret) (by simp [c11, c11_b, h1, h2, h3, h4]; rfl) (by simp) (by simp [c11, numB, h5]; congr; omega)
      · obtain ⟨m, rfl⟩ : ∃ m : Nat, n = m := ⟨n.toNat, by omega⟩
        have e : clampN m = m := by simp only [clampN]; omega
        obtain ⟨k1, k2, k3⟩ := key m (by omega) (by omega)
        have hF := F30 m (by omega) (by omega)
        have h5 : ¬ m < 248 := by omega
        rw [e]
        exact F_call T11 (ex := .ret) (by simp [c11, c11_b, h1, h2, h3, h5, callArgs_none, hF, k1, k2, k3]; rfl) (by simp) (by simp [c11, numB, h5, ← bs_append])

theorem numB_len (m : Nat) (h : m < 72057594037927936) : (numB m).length ≤ 8 := by
  have := dig_le m h
  unfold numB; split <;> simp; omega
theorem clampN_lt (n : Int) : clampN n < 72057594037927936 := by simp only [clampN]; omega

theorem F12 (s : ByteArray) (h : s.size ≤ 1000) : F T 12 [.str s] [] = some (.str (bs (numB s.size) ++ s), []) := by
  have hF := F11 s.size
  have e : clampN s.size = s.size := by simp only [clampN]; omega
  rw [e] at hF
  have hl := numB_len s.size (by omega)
  have h1 : (numB s.size).length + s.size ≤ 4611686018427387904 := by omega
  exact F_call T12 (ex := .ret) (by simp [c12, c12_b, callArgs_none, hF, h1]; rfl) (by simp) (by simp [c12])

theorem dig_get (m : Nat) : ∀ i (h : i < (dig m).length), (dig m)[i] = ((m / 256 ^ ((dig m).length - 1 - i) % 256 : Nat) : Int) := by
  induction m using Nat.strongRecOn with
  | ind m ih =>
    intro i h
    by_cases h1 : m < 256
    · simp only [dig_small h1, List.length_singleton] at h ⊢
      obtain rfl : i = 0 := by omega
      simp; omega
    · have hl : (dig m).length = (dig (m / 256)).length + 1 := by rw [dig_step h1]; simp
      by_cases h2 : i < (dig (m / 256)).length
      · have e : (dig m)[i] = (dig (m / 256))[i] := by simp only [dig_step h1]; rw [List.getElem_append_left h2]
        rw [e, ih (m / 256) (by omega) i h2, hl, Nat.div_div_eq_div_mul, ← Nat.pow_succ', show (dig (m / 256)).length + 1 - 1 - i = (dig (m / 256)).length - 1 - i + 1 from by omega]
      · obtain rfl : i = (dig (m / 256)).length := by omega
        have e : (dig m)[(dig (m / 256)).length] = ((m % 256 : Nat) : Int) := by simp only [dig_step h1]; rw [List.getElem_append_right (by omega)]; simp
        rw [e, hl]; simp

theorem shr_pow (m k : Nat) (h : k ≤ 7) : (m : Int).fdiv (2 ^ (min (8 * (k : Int)).toNat 64)) = ((m / 256 ^ k : Nat) : Int) := by
  have e : min (8 * (k : Int)).toNat 64 = 8 * k := by omega
  have e2 : (2 : Int) ^ (8 * k) = ((256 ^ k : Nat) : Int) := by rw [Int.pow_mul]; push_cast; rfl
  rw [e, e2, Int.fdiv_eq_ediv_of_nonneg _ (Int.natCast_nonneg _)]
  omega

def cs9 (m w i : Int) (l : List Int) (ver : Nat) : ASt := ⟨[.top, .int .i64 m, .top, .top, .top, .own 0 0 l.length, .int .i64 w, .top, .top, .top, .top, .top, .top, .top, .top, .top, .top, .top, .top, .top, .top, .top, .top, .top, .top, .top, .top, .top, .top, .top, .top, .top, .int .i64 w, .int .i64 i, .top, .top, .top, .top, .top, .top, .top, .top, .top, .top, .top, .top, .top, .top, .top], [(0, ⟨5, 1, false, enc (eInt .u8) l, ver⟩)], 1, 0⟩
def ex9 (m w : Int) (l : List Int) (ver : Nat) : ASt := ⟨[.top, .int .i64 m, .top, .top, .top, .own 0 0 l.length, .int .i64 w, .top, .top, .top, .top, .top, .top, .top, .top, .top, .top, .top, .top, .top, .top, .top, .top, .top, .top, .top, .top, .top, .top, .top, .top, .top, .int .i64 w, .int .i64 w, .bool false, .top, .top, .top, .top, .top, .top, .top, .top, .top, .top, .top, .top, .top, .top], [(0, ⟨5, 1, false, enc (eInt .u8) l, ver⟩)], 65, 0⟩

theorem l9 (m : Nat) (hm : m < 72057594037927936) (k : Nat) : ∀ (i : Nat) (l : List Int) (ver : Nat) (st : ASt), i + k = (dig m).length → l.length + k < 3000 → canon [1, 5, 6, 32, 33] st = cs9 m (dig m).length i l ver →
    Lp T [1, 5, 6, 32, 33] c9_l0 st = some (.exit 0, ex9 m (dig m).length (l ++ (dig m).drop i) (ver + k)) := by
  have hw := dig_le m hm
  induction k with
  | zero =>
    intro i l ver st h1 h2 hc
    obtain rfl : i = (dig m).length := by omega
    exact Lp_exit (by rw [hc]; simp [cs9, ex9, c9_l0]) (by simp)
  | succ k ih =>
    intro i l ver st h1 h2 hc
    have hi : i < (dig m).length := by omega
    have e1 : IntKind.i64.wrap ((dig m).length - 1) = (dig m).length - 1 := wrap_id _ (by omega) (by omega)
    have e2 : IntKind.i64.wrap ((dig m).length - 1 - i) = (dig m).length - 1 - i := wrap_id _ (by omega) (by omega)
    have e3 : IntKind.i64.wrap (8 * ((dig m).length - 1 - i)) = 8 * ((dig m).length - 1 - i) := wrap_id _ (by omega) (by omega)
    have e4 : IntKind.i64.wrap ((i : Int) + 1) = (i : Int) + 1 := wrap_id _ (by omega) (by omega)
    have e5 : ¬ 8 * (((dig m).length : Int) - 1 - i) < 0 := by omega
    have e6 : IntKind.u8.wrap ((m : Int).fdiv (2 ^ (min (8 * (((dig m).length : Int) - 1 - i)).toNat 64))) = (dig m)[i] := by
      have := shr_pow m ((dig m).length - 1 - i) (by omega)
      rw [show (((dig m).length - 1 - i : Nat) : Int) = ((dig m).length : Int) - 1 - i from by omega] at this
      rw [this, wrap8 _ (Int.natCast_nonneg _), dig_get m i hi]
      generalize m / 256 ^ ((dig m).length - 1 - i) = q
      omega
    have e7 : IntKind.i64.bits = 64 := rfl
    have e8 : ¬ (l.length + 1 ≤ l.length ∧ 0 < l.length) := by omega
    have e9 : l.length ≤ 140737488355327 := by omega
    have hb : ∃ s, acode (F T) (Lp T) c9_l0 (cs9 m (dig m).length i l ver) = some (.normal, s) ∧ canon [1, 5, 6, 32, 33] s = cs9 m (dig m).length (i + 1 : Nat) (l ++ [(dig m)[i]]) (ver + 1) := by
      refine ⟨_, by simp [cs9, c9_l0, hi, e1, e2, e3, e4, e5, e6, e7, e8, e9, forget, drop1]; rfl, ?_⟩
      simp [cs9]
    obtain ⟨s, hs, hc'⟩ := hb
    have hn := ih (i + 1) (l ++ [(dig m)[i]]) (ver + 1) s (by omega) (by simp; omega) hc'
    rw [Lp_next (by rw [hc]; exact hs) hn, List.append_assoc, List.singleton_append, List.getElem_cons_drop, show ver + 1 + k = ver + (k + 1) from by omega]


theorem F9 (z : Nat) (b : Bool) (l : List Int) (n : Int) (hz : z = 1 ∨ l = []) (hl : l.length ≤ 2000) : ∃ ver, F T 9 [.ro z (enc (eInt .u8) l) b, .int .i64 n] [] = some (.own 0 0 (l.length + (numB (clampN n)).length), [⟨5, 1, false, enc (eInt .u8) (l ++ numB (clampN n)), ver⟩]) := by
  have hcl : (if 72057594037927935 < (if n < 0 then 0 else n) then 72057594037927935 else (if n < 0 then 0 else n)) = (clampN n : Int) := by simp only [clampN]; split <;> split <;> omega
  have hm := clampN_lt n
  generalize clampN n = m at hcl hm ⊢
  have e0 : IntKind.i64.wrap ((l.length : Int) + 8) = (l.length : Int) + 8 := wrap_id _ (by omega) (by omega)
  have e1 : (0 : Int) ≤ (l.length : Int) + 8 := by omega
  have e2 : (l.length : Int) + 8 ≤ 140737488355328 := by omega
  have e2' : ((l.length : Int) + 8).toNat ≤ 140737488355328 := by omega
  have e3 : l.length ≤ 140737488355328 := by omega
  have e4 : l.length ≤ 140737488355327 := by omega
  have e5 : ¬ (l.length + 1 ≤ l.length ∧ 0 < l.length) := by omega
  have e0' : IntKind.i64.wrap 8 = 8 := rfl
  by_cases h3 : m < 248
  · have h4 : IntKind.u8.wrap (m : Int) = m := by rw [wrap8 _ (by omega)]; omega
    have h3' : (m : Int) < 248 := by omega
    by_cases hn : l = []
    · subst hn
      exact ⟨_, F_call T9 (ex := .ret) (by simp [c9, c9_b, hcl, h3', h4, e0']; rfl) (by simp) (by simp [c9, numB, h3]; rfl)⟩
    · obtain rfl : z = 1 := hz.resolve_right hn
      have hp : 0 < l.length := List.length_pos_iff.2 hn
      exact ⟨_, F_call T9 (ex := .ret) (by simp [c9, c9_b, hcl, h3', h4, e0, e1, e2, e2', e3, e4, e5, hn]; rfl) (by simp) (by simp [c9, numB, h3]; rfl)⟩
  · have h3' : ¬ (m : Int) < 248 := by omega
    have hd := dig_le m hm
    have hF := F29 m hm
    have f1 : IntKind.i64.wrap (247 + (dig m).length) = 247 + (dig m).length := wrap_id _ (by omega) (by omega)
    have f2 : IntKind.u8.wrap (247 + (dig m).length) = 247 + (dig m).length := by rw [wrap8 _ (by omega)]; omega
    by_cases hn : l = []
    · subst hn
      refine ⟨_, F_call T9 (ex := .ret) (by simp [c9, c9_b, hcl, h3', e0', callArgs_none, hF, f1, f2]; rw [l9 m hm (dig m).length 0 [247 + ((dig m).length : Int)] 1 _ (by omega) (by simp; omega) ?_]; simp [ex9]; rfl; simp [cs9]) (by simp) (by simp [c9, numB, h3]; rfl)⟩
    · obtain rfl : z = 1 := hz.resolve_right hn
      have hp : 0 < l.length := List.length_pos_iff.2 hn
      refine ⟨_, F_call T9 (ex := .ret) (by simp [c9, c9_b, hcl, h3', e0, e1, e2, e2', e3, e4, e5, hn, callArgs_none, hF, f1, f2]; rw [l9 m hm (dig m).length 0 (l ++ [247 + ((dig m).length : Int)]) 2 _ (by omega) (by simp; omega) ?_]; simp [ex9]; rfl; simp [cs9]) (by simp) (by simp [c9, numB, h3]; rfl)⟩

theorem F10 (l : List Int) (s : ByteArray) (hl : l.length ≤ 1000) (hs : s.size ≤ 1000) : ∃ ver, F T 10 [.ro 1 (enc (eInt .u8) l) false, .str s] [] = some (.own 0 0 (l.length + (numB s.size).length + s.size), [⟨5, 1, false, enc (eInt .u8) (l ++ numB s.size ++ sb s), ver⟩]) := by
  obtain ⟨ver, hF⟩ := F9 1 false l s.size (.inl rfl) (by omega)
  have e : clampN s.size = s.size := by simp only [clampN]; omega
  rw [e] at hF
  have hn := numB_len s.size (by omega)
  have e1 : l.length + (numB s.size).length + s.size ≤ 140737488355328 := by omega
  have e2 : l.length + (numB s.size).length ≤ 140737488355328 := by omega
  have e3 : ∀ a : Nat, (a + s.size ≤ a ∧ (0 < a ∨ sb s = [])) ↔ s.size = 0 := fun a => by
    constructor
    · rintro ⟨h, _⟩; omega
    · intro h; refine ⟨by omega, .inr (List.length_eq_zero_iff.1 (by rw [sb_length]; exact h))⟩
  by_cases h0 : s.size = 0
  · have h1 : sb s = [] := List.length_eq_zero_iff.1 (by rw [sb_length]; exact h0)
    rw [h0] at hF e1 e2
    rw [show ((0 : Nat) : Int) = 0 from rfl] at hF
    exact ⟨_, F_call T10 (ex := .ret) (by simp [c10, c10_b, callArgs_none, hF, e1, e2, e3, bytesRow_eq, h0, h1]; rfl) (by simp) (by simp [c10, h1, h0]; rfl)⟩
  · exact ⟨_, F_call T10 (ex := .ret) (by simp [c10, c10_b, callArgs_none, hF, e1, e2, e3, bytesRow_eq, h0]; rfl) (by simp) (by simp [c10]; rfl)⟩

theorem F8 : F T 8 [] [] = some (.bool true, []) := F_iff.2 ⟨12, by kernel_rfl⟩
end Go.Proofs.Ytlopfjipndhpfab.Oct
