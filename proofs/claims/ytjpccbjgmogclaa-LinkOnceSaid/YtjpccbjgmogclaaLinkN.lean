/- The texts that are put: all unlike. -/
import Derived.Test.YtjpccbjgmogclaaTLK
import Derived.Test.YtjpccbjgmogclaaBase
set_option linter.all false
set_option linter.unusedSimpArgs false
set_option maxRecDepth 100000
set_option maxHeartbeats 4000000
namespace Go.Proofs.Ytjpccbjgmogclaa.Link
open Go Go.RowKit Go.Proofs.Ytjpccbjgmogclaa.Lift Go.Proofs.Ytjpccbjgmogclaa.TLK Go.Proofs.Ytjpccbjgmogclaa.Base Go.Proofs.Ytjpccbjgmogclaa

/-- The digits of a number. -/
def dig : Nat → Nat → List Int
  | 0, _ => []
  | f + 1, n => if n = 0 then [] else dig f (n / 10) ++ [((48 + n % 10 : Nat) : Int)]

def val (l : List Int) : Nat := l.foldl (fun a d => 10 * a + (d.toNat - 48)) 0

theorem val_dig : ∀ (f n : Nat), n < f → val (dig f n) = n
  | 0, n, h => by omega
  | f + 1, n, h => by
    unfold dig
    by_cases h0 : n = 0
    · rw [if_pos h0, h0]; rfl
    · rw [if_neg h0]
      unfold val
      rw [List.foldl_append]
      have ih := val_dig f (n / 10) (by omega)
      unfold val at ih
      rw [ih]
      simp only [List.foldl_cons, List.foldl_nil, Int.toNat_natCast]
      omega

theorem dig_rng : ∀ (f n : Nat), ∀ d ∈ dig f n, 0 ≤ d ∧ d ≤ 255
  | 0, _, d, h => by simp [dig] at h
  | f + 1, n, d, h => by
    unfold dig at h
    split at h
    · simp at h
    · rw [List.mem_append] at h
      rcases h with h | h
      · exact dig_rng f _ d h
      · simp at h; omega

theorem dig_len : ∀ (f n : Nat), (dig f n).length ≤ f
  | 0, _ => by simp [dig]
  | f + 1, n => by
    unfold dig
    split
    · simp
    · have := dig_len f (n / 10)
      simp; omega

theorem dig_more : ∀ (f g n : Nat), n < f → f ≤ g → dig f n = dig g n
  | 0, _, n, h, _ => by omega
  | f + 1, g, n, h, hg => by
    cases g with
    | zero => omega
    | succ g =>
      unfold dig
      by_cases h0 : n = 0
      · rw [if_pos h0, if_pos h0]
      · rw [if_neg h0, if_neg h0, dig_more f g (n / 10) (by omega) (by omega)]

theorem dig_at (n : Nat) (h : ¬ n = 0) : dig (n + 1) n = dig (n / 10 + 1) (n / 10) ++ [((48 + n % 10 : Nat) : Int)] := by
  show (if n = 0 then [] else dig n (n / 10) ++ [((48 + n % 10 : Nat) : Int)]) = _
  rw [if_neg h, dig_more (n / 10 + 1) n (n / 10) (by omega) (by omega)]

/-- The number's text. -/
def numL (n : Nat) : List Int := if n = 0 then [48] else dig (n + 1) n
/-- The n-th text. -/
def nm (n : Nat) : ByteArray := bs (116 :: numL n)

theorem numL_inj {n m : Nat} (h : numL n = numL m) : n = m := by
  have h1 : val (numL n) = n := by
    unfold numL
    split
    · rename_i h; rw [h]; rfl
    · exact val_dig _ _ (by omega)
  have h2 : val (numL m) = m := by
    unfold numL
    split
    · rename_i h; rw [h]; rfl
    · exact val_dig _ _ (by omega)
  rw [← h1, ← h2, h]

theorem numL_rng (n : Nat) : ∀ d ∈ numL n, 0 ≤ d ∧ d ≤ 255 := by
  unfold numL
  split
  · intro d h; simp at h; omega
  · exact dig_rng _ _

theorem bs_inj {a b : List Int} (ha : ∀ d ∈ a, 0 ≤ d ∧ d ≤ 255) (hb : ∀ d ∈ b, 0 ≤ d ∧ d ≤ 255) (h : bs a = bs b) : a = b := by
  have h1 := congrArg (fun s => s.data.toList) h
  simp only [bs_data] at h1
  have key : ∀ (a b : List Int), (∀ d ∈ a, 0 ≤ d ∧ d ≤ 255) → (∀ d ∈ b, 0 ≤ d ∧ d ≤ 255) → a.map (fun n => UInt8.ofNat n.toNat) = b.map (fun n => UInt8.ofNat n.toNat) → a = b := by
    intro a
    induction a with
    | nil => intro b _ _ h; cases b with
      | nil => rfl
      | cons _ _ => simp at h
    | cons x a ih =>
      intro b h1 h2 h
      cases b with
      | nil => simp at h
      | cons y b =>
        simp only [List.map_cons, List.cons.injEq] at h
        have hx := h1 x (by simp)
        have hy := h2 y (by simp)
        have e : x.toNat = y.toNat := by
          have := congrArg UInt8.toNat h.1
          simp at this
          omega
        have exy : x = y := by omega
        rw [exy, ih b (fun d hd => h1 d (by simp [hd])) (fun d hd => h2 d (by simp [hd])) h.2]
  exact key a b ha hb h1

theorem nm_inj {n m : Nat} (h : nm n = nm m) : n = m := by
  have := bs_inj (a := 116 :: numL n) (b := 116 :: numL m) (by intro d hd; rw [List.mem_cons] at hd; rcases hd with rfl | hd; omega; exact numL_rng n d hd) (by intro d hd; rw [List.mem_cons] at hd; rcases hd with rfl | hd; omega; exact numL_rng m d hd) h
  injection this with _ h2
  exact numL_inj h2

theorem nm_size (n : Nat) : (nm n).size = (numL n).length + 1 := by unfold nm; rw [bs_size]; rfl

theorem num_loop : ∀ (f n : Nat) (r : List Int) (st : ASt), n < f → n ≤ 1000000 → r.length + f ≤ 2000000 → canon [0, 3, 4] st = ⟨[.int .i64 n, .top, .top, .str (bs r), .bool false, .top, .top, .top, .top, .top, .top, .top, .top, .top, .top, .top, .top, .top, .top, .top, .top, .top, .top, .top, .top, .top, .top, .top, .top, .top, .top], [], 0, 0⟩ →
      W T c94_k0 st (Lift.Fin c94 (.str (bs (dig (n + 1) n ++ r)), [])) := by
  intro f
  induction f with
  | zero => intro n r st h; omega
  | succ f ih =>
    intro n r st h hn hr hc
    unfold c94_k0
    by_cases h0 : n = 0
    · subst h0
      rw [show dig (0 + 1) 0 = [] from rfl, List.nil_append]
      refine W_round hc ?_
      unfold c94_l0
      repeat (first | refine W_assoc ?_ | (show W _ (.seq (.region _ _) _) _ _; refine W_reg (by simp; with_reducible rfl) ?_) | (show R _ _ _ (_ :: _) _ _ _ _; refine R_op (by simp (maxSteps := 2000000); with_reducible rfl) ?_) | (show R _ _ _ [] _ _ _ _; refine R_nil (by simp; with_reducible rfl) ?_) | (show W _ (.seq (.cond _ _ _) _) _ _; first | refine W_ct (by first | (simp; done) | fail) ?_ | refine W_cf (by first | (simp; done) | fail) ?_) | refine W_skip ?_ | refine W_bl (c := .seq _ _) ?_ | refine W_bl (c := .region _ _) ?_ | refine W_bl (c := .cond _ _ _) ?_ | refine W_bl (c := .block _ _) ?_ | refine W_rt ?_ | refine W_ex ?_ | refine W_end ?_ | refine W_tail (a := .region _ _) ?_ | refine W_tail (a := .cond _ _ _) ?_ | refine W_tail (a := .ret) ?_ | refine W_tail (a := .exit _) ?_ | refine W_tail (a := .block _ _) ?_ | refine QB_normal ?_ | refine QB_exit ?_ | refine QB_ret ?_ | refine QB_out (by decide) ?_ | refine QL_next ?_ | refine QL_exit ?_ | refine QL_ret ?_ | refine QL_out (by decide) ?_ | (show Fin _ _ .ret _; exact Fin_ret (by first | (simp [c94]; done) | (simp [c94]; with_reducible rfl))) | (show Fin _ _ .normal _; exact Fin_end (by first | (simp [c94]; done) | (simp [c94]; with_reducible rfl))))
    · rw [dig_at n h0, List.append_assoc, List.singleton_append]
      have t1 : (n : Int).tmod 10 = ((n % 10 : Nat) : Int) := by rw [Int.tmod_eq_emod_of_nonneg (by omega)]; simp
      have t2 : (n : Int).tdiv 10 = ((n / 10 : Nat) : Int) := by rw [Int.tdiv_eq_ediv_of_nonneg (by omega)]; simp
      have w1 : IntKind.i64.wrap ((n % 10 : Nat) : Int) = ((n % 10 : Nat) : Int) := wrap_i64 _ (by omega) (by omega)
      have w2 : IntKind.i64.wrap ((n / 10 : Nat) : Int) = ((n / 10 : Nat) : Int) := wrap_i64 _ (by omega) (by omega)
      have w3 : IntKind.i64.wrap (48 + ((n % 10 : Nat) : Int)) = ((48 + n % 10 : Nat) : Int) := by rw [wrap_i64 _ (by omega) (by omega)]; omega
      have w4 : IntKind.u8.wrap ((48 + n % 10 : Nat) : Int) = ((48 + n % 10 : Nat) : Int) := by
        simp only [IntKind.wrap]
        have : n % 10 < 10 := Nat.mod_lt _ (by omega)
        simp [IntKind.bits, IntKind.signed]
        omega
      have h1 : ¬ ((n % 10 : Nat) : Int) < 0 := by omega
      have hz : 1 + r.length ≤ 4611686018427387904 := by omega
      have hz' : r.length + 1 ≤ 4611686018427387904 := by omega
      have e1 : ∀ d : Int, bs [d] ++ bs r = bs ([d] ++ r) := fun d => (bs_append [d] r).symm
      generalize hm : n % 10 = m at *
      generalize hq : n / 10 = q at *
      generalize hd : ((48 + m : Nat) : Int) = d at *
      refine W_round hc ?_
      unfold c94_l0
      repeat (first | refine W_assoc ?_ | (show W _ (.seq (.region _ _) _) _ _; refine W_reg (by simp; with_reducible rfl) ?_) | (show R _ _ _ (_ :: _) _ _ _ _; refine R_op (by simp (maxSteps := 2000000) [h0, t1, t2, w1, w2, w3, w4, h1, strOf_one, e1, hz, hz']; with_reducible rfl) ?_) | (show R _ _ _ [] _ _ _ _; refine R_nil (by simp; with_reducible rfl) ?_) | (show W _ (.seq (.cond _ _ _) _) _ _; first | refine W_ct (by first | (simp [h0, t1, t2, w1, w2, w3, w4, h1, strOf_one, e1, hz, hz']; done) | fail) ?_ | refine W_cf (by first | (simp [h0, t1, t2, w1, w2, w3, w4, h1, strOf_one, e1, hz, hz']; done) | fail) ?_) | refine W_skip ?_ | refine W_bl (c := .seq _ _) ?_ | refine W_bl (c := .region _ _) ?_ | refine W_bl (c := .cond _ _ _) ?_ | refine W_bl (c := .block _ _) ?_ | refine W_rt ?_ | refine W_ex ?_ | refine W_end ?_ | refine W_tail (a := .region _ _) ?_ | refine W_tail (a := .cond _ _ _) ?_ | refine W_tail (a := .ret) ?_ | refine W_tail (a := .exit _) ?_ | refine W_tail (a := .block _ _) ?_ | refine QB_normal ?_ | refine QB_exit ?_ | refine QB_ret ?_ | refine QB_out (by decide) ?_ | refine QL_next ?_ | refine QL_exit ?_ | refine QL_ret ?_ | refine QL_out (by decide) ?_ | (show Fin _ _ .ret _; exact Fin_ret (by first | (simp [c94]; done) | (simp [c94]; with_reducible rfl))) | (show Fin _ _ .normal _; exact Fin_end (by first | (simp [c94]; done) | (simp [c94]; with_reducible rfl))))
      exact ih q (d :: r) _ (by omega) (by omega) (by simp; omega) (by simp; try rfl)

theorem V_number (n : Nat) (hn : n ≤ 1000000) : FV (F T) 94 [.int .i64 n] = some (.str (bs (numL n))) := by
  have h : F T 94 [.int .i64 n] [] = some (.str (bs (numL n)), []) := by
    unfold numL
    refine F_W T94 ?_
    simp only [c94, c94_b, Lift.start]
    by_cases h0 : n = 0
    · subst h0
      rw [if_pos rfl]
      have e : bs [48] = ⟨⟨[48]⟩⟩ := rfl
      rw [e]
      repeat (first | refine W_assoc ?_ | (show W _ (.seq (.region _ _) _) _ _; refine W_reg (by simp; with_reducible rfl) ?_) | (show R _ _ _ (_ :: _) _ _ _ _; refine R_op (by simp (maxSteps := 2000000); with_reducible rfl) ?_) | (show R _ _ _ [] _ _ _ _; refine R_nil (by simp; with_reducible rfl) ?_) | (show W _ (.seq (.cond _ _ _) _) _ _; first | refine W_ct (by first | (simp; done) | fail) ?_ | refine W_cf (by first | (simp; done) | fail) ?_) | refine W_skip ?_ | refine W_bl (c := .seq _ _) ?_ | refine W_bl (c := .region _ _) ?_ | refine W_bl (c := .cond _ _ _) ?_ | refine W_bl (c := .block _ _) ?_ | refine W_rt ?_ | refine W_ex ?_ | refine W_end ?_ | refine W_tail (a := .region _ _) ?_ | refine W_tail (a := .cond _ _ _) ?_ | refine W_tail (a := .ret) ?_ | refine W_tail (a := .exit _) ?_ | refine W_tail (a := .block _ _) ?_ | refine QB_normal ?_ | refine QB_exit ?_ | refine QB_ret ?_ | refine QB_out (by decide) ?_ | refine QL_next ?_ | refine QL_exit ?_ | refine QL_ret ?_ | refine QL_out (by decide) ?_ | (show Fin _ _ .ret _; exact Fin_ret (by first | (simp [c94]; done) | (simp [c94]; with_reducible rfl))) | (show Fin _ _ .normal _; exact Fin_end (by first | (simp [c94]; done) | (simp [c94]; with_reducible rfl))))
    · rw [if_neg h0]
      have h1 : ¬ (n : Int) < 0 := by omega
      repeat (first | refine W_assoc ?_ | (show W _ (.seq (.region _ _) _) _ _; refine W_reg (by simp; with_reducible rfl) ?_) | (show R _ _ _ (_ :: _) _ _ _ _; refine R_op (by simp (maxSteps := 2000000) [h0, h1]; with_reducible rfl) ?_) | (show R _ _ _ [] _ _ _ _; refine R_nil (by simp; with_reducible rfl) ?_) | (show W _ (.seq (.cond _ _ _) _) _ _; first | refine W_ct (by first | (simp [h0, h1]; done) | fail) ?_ | refine W_cf (by first | (simp [h0, h1]; done) | fail) ?_) | refine W_skip ?_ | refine W_bl (c := .seq _ _) ?_ | refine W_bl (c := .region _ _) ?_ | refine W_bl (c := .cond _ _ _) ?_ | refine W_bl (c := .block _ _) ?_ | refine W_rt ?_ | refine W_ex ?_ | refine W_end ?_ | refine W_tail (a := .region _ _) ?_ | refine W_tail (a := .cond _ _ _) ?_ | refine W_tail (a := .ret) ?_ | refine W_tail (a := .exit _) ?_ | refine W_tail (a := .block _ _) ?_ | refine QB_normal ?_ | refine QB_exit ?_ | refine QB_ret ?_ | refine QB_out (by decide) ?_ | refine QL_next ?_ | refine QL_exit ?_ | refine QL_ret ?_ | refine QL_out (by decide) ?_ | (show Fin _ _ .ret _; exact Fin_ret (by first | (simp; done) | (simp; with_reducible rfl))) | (show Fin _ _ .normal _; exact Fin_end (by first | (simp; done) | (simp; with_reducible rfl))))
      have := num_loop (n + 1) n []
      rw [List.append_nil] at this
      exact this _ (by omega) hn (by simp; omega) (by simp [bs_nil]; try rfl)
  simpa using FV_of h

theorem V_name (n : Nat) (hn : n ≤ 1000000) : FV (F T) 49 [.int .i64 n] = some (.str (nm n)) := by
  have f1 := V_number n hn
  have e : (⟨⟨[116]⟩⟩ : ByteArray) = bs [116] := rfl
  have e2 : (⟨⟨[116]⟩⟩ : ByteArray) ++ bs (numL n) = nm n := by rw [e]; unfold nm; rw [← bs_append]; rfl
  have h : F T 49 [.int .i64 n] [] = some (.str (nm n), []) := by
    refine F_W T49 ?_
    simp only [c49, c49_b, Lift.start]
    have hlen : (numL n).length ≤ n + 1 := by
      unfold numL
      split
      · simp
      · exact dig_len _ _
    have hz : 1 + (numL n).length ≤ 4611686018427387904 := by omega
    have hz' : (numL n).length + 1 ≤ 4611686018427387904 := by omega
    have hz2 : (⟨⟨[116]⟩⟩ : ByteArray).size = 1 := rfl
    repeat (first | refine W_assoc ?_ | (show W _ (.seq (.region _ _) _) _ _; refine W_reg (by simp; with_reducible rfl) ?_) | (show R _ _ _ (_ :: _) _ _ _ _; refine R_op (by simp (maxSteps := 2000000) [f1, e2, hz, hz', hz2]; with_reducible rfl) ?_) | (show R _ _ _ [] _ _ _ _; refine R_nil (by simp; with_reducible rfl) ?_) | (show W _ (.seq (.cond _ _ _) _) _ _; first | refine W_ct (by first | (simp [f1, e2, hz, hz', hz2]; done) | fail) ?_ | refine W_cf (by first | (simp [f1, e2, hz, hz', hz2]; done) | fail) ?_) | refine W_skip ?_ | refine W_bl (c := .seq _ _) ?_ | refine W_bl (c := .region _ _) ?_ | refine W_bl (c := .cond _ _ _) ?_ | refine W_bl (c := .block _ _) ?_ | refine W_rt ?_ | refine W_ex ?_ | refine W_end ?_ | refine W_tail (a := .region _ _) ?_ | refine W_tail (a := .cond _ _ _) ?_ | refine W_tail (a := .ret) ?_ | refine W_tail (a := .exit _) ?_ | refine W_tail (a := .block _ _) ?_ | refine QB_normal ?_ | refine QB_exit ?_ | refine QB_ret ?_ | refine QB_out (by decide) ?_ | refine QL_next ?_ | refine QL_exit ?_ | refine QL_ret ?_ | refine QL_out (by decide) ?_ | (show Fin _ _ .ret _; exact Fin_ret (by first | (simp [c49]; done) | (simp [c49]; with_reducible rfl))) | (show Fin _ _ .normal _; exact Fin_end (by first | (simp [c49]; done) | (simp [c49]; with_reducible rfl))))
  simpa using FV_of h

end Go.Proofs.Ytjpccbjgmogclaa.Link
