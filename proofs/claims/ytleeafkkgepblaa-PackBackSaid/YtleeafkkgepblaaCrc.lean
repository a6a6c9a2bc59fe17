/- Sums of bytes: what the program's and the document's functions come to. -/
import Derived.Test.YtleeafkkgepblaaTPB
import Derived.Test.YtleeafkkgepblaaBase
import Derived.Test.YtleeafkkgepblaaCrcPure
set_option linter.all false
set_option linter.unusedSimpArgs false
set_option maxRecDepth 100000
set_option maxHeartbeats 4000000
namespace Go.Proofs.Ytleeafkkgepblaa.CrcC
open Go Go.RowKit Go.Proofs.Ytleeafkkgepblaa.Lift Go.Proofs.Ytleeafkkgepblaa.TPB Go.Proofs.Ytleeafkkgepblaa.Base Go.Proofs.Ytleeafkkgepblaa

abbrev bits := IntKind.u32.bits
theorem toN (s : BitVec 32) : (Crc.I s % 2 ^ IntKind.u32.bits).toNat = s.toNat := by
  have := s.isLt
  unfold Crc.I
  rw [show IntKind.u32.bits = 32 from rfl]
  omega
theorem wrI (s : BitVec 32) : IntKind.u32.wrap (s.toNat : Int) = Crc.I s := by
  have := s.isLt
  rw [IntKind.wrap_u32]
  unfold Crc.I
  omega
theorem f_and (s : BitVec 32) : IntKind.u32.wrap ↑((Crc.I s % 2 ^ IntKind.u32.bits).toNat &&& 1 % 2 ^ IntKind.u32.bits) = Crc.I s % 2 := by
  rw [toN, show 1 % 2 ^ IntKind.u32.bits = (1#32).toNat from rfl, ← BitVec.toNat_and, wrI, Crc.I_odd]
theorem f_shr (s : BitVec 32) : (Crc.I s).fdiv (2 ^ min 1 IntKind.u32.bits) = Crc.I (s >>> 1) := by
  rw [show min 1 IntKind.u32.bits = 1 from rfl, Int.fdiv_eq_ediv_of_nonneg _ (by decide), ← Crc.I_half]
  rfl
theorem f_poly (s : BitVec 32) : IntKind.u32.wrap ↑((Crc.I s % 2 ^ IntKind.u32.bits).toNat ^^^ 3988292384 % 2 ^ IntKind.u32.bits) = Crc.I (s ^^^ Crc.poly) := by
  rw [toN, show 3988292384 % 2 ^ IntKind.u32.bits = Crc.poly.toNat from rfl, ← BitVec.toNat_xor, wrI]
theorem f_not (s : BitVec 32) : IntKind.u32.wrap ↑(4294967295 % 2 ^ IntKind.u32.bits ^^^ (Crc.I s % 2 ^ IntKind.u32.bits).toNat) = Crc.I (Crc.ones ^^^ s) := by
  rw [toN, show 4294967295 % 2 ^ IntKind.u32.bits = Crc.ones.toNat from rfl, ← BitVec.toNat_xor, wrI]
theorem I_B' {c : Int} (h : 0 ≤ c ∧ c ≤ 255) : Crc.I (Crc.B c) = c := Crc.I_B h.1 (by omega)
theorem f_xor (s : BitVec 32) (y : Int) (h : 0 ≤ y ∧ y ≤ 255) : IntKind.u32.wrap ↑((Crc.I s % 2 ^ IntKind.u32.bits).toNat ^^^ (y % 2 ^ IntKind.u32.bits).toNat) = Crc.I (s ^^^ Crc.B y) := by
  rw [← I_B' h, toN, toN, ← BitVec.toNat_xor, wrI, I_B' h]
theorem f_conv (y : Int) (h : 0 ≤ y ∧ y ≤ 255) : IntKind.u32.wrap y = y := by rw [IntKind.wrap_u32]; omega
theorem u32s : IntKind.u32.signed = false := rfl
theorem u32m : IntKind.u32.max = 4294967295 := rfl

theorem odd_cases (s : BitVec 32) : Crc.I s % 2 = 1 ∧ Crc.Z s = (s >>> 1) ^^^ Crc.poly ∨ ¬ Crc.I s % 2 = 1 ∧ Crc.Z s = s >>> 1 := by
  by_cases h : Crc.I s % 2 = 1
  · exact .inl ⟨h, by unfold Crc.Z; rw [if_pos ((Crc.odd_iff s).2 h)]⟩
  · exact .inr ⟨h, by unfold Crc.Z; rw [if_neg (fun x => h ((Crc.odd_iff s).1 x))]⟩

theorem more_in (l : List Int) (i : Int) (b : SCode) (Q : AEx → ASt → Prop) (r : BitVec 32)
    (hQ : W T b ⟨[.int .u32 (Crc.I r), .top, .top, .top, .top, .top, .top, .top, .top, .top, .ro 1 (enc (eInt .u8) l) false, .int .i64 l.length, .int .i64 i, .top, .top, .top, .top, .top, .top, .top, .int .i64 8, .bool false, .top, .top, .top, .top, .top, .top, .top, .top, .top, .top, .top, .top], [], 64, 0⟩ Q) :
    ∀ (d j : Nat) (s : BitVec 32) (st : ASt), j + d = 8 → r = Crc.Zn d s → canon [0, 10, 11, 12, 20] st = ⟨[.int .u32 (Crc.I s), .top, .top, .top, .top, .top, .top, .top, .top, .top, .ro 1 (enc (eInt .u8) l) false, .int .i64 l.length, .int .i64 i, .top, .top, .top, .top, .top, .top, .top, .int .i64 j, .top, .top, .top, .top, .top, .top, .top, .top, .top, .top, .top, .top, .top], [], 0, 0⟩ →
      W T (.seq (.block 2 (.loop [0, 10, 11, 12, 20] c55_l1)) b) st Q := by
  intro d
  induction d with
  | zero =>
    intro j s st hj hr hc
    obtain rfl : j = 8 := by omega
    subst hr
    refine W_round hc ?_
    unfold c55_l1
    repeat (first | refine W_assoc ?_ | (show W _ (.seq (.region _ _) _) _ _; refine W_reg (by simp; with_reducible rfl) ?_) | (show R _ _ _ (_ :: _) _ _ _ _; refine R_op (by simp (maxSteps := 2000000); with_reducible rfl) ?_) | (show R _ _ _ [] _ _ _ _; refine R_nil (by simp; with_reducible rfl) ?_) | (show W _ (.seq (.cond _ _ _) _) _ _; first | refine W_ct (by first | (simp; done) | fail) ?_ | refine W_cf (by first | (simp; done) | fail) ?_) | refine W_skip ?_ | refine W_bl (c := .seq _ _) ?_ | refine W_bl (c := .region _ _) ?_ | refine W_bl (c := .cond _ _ _) ?_ | refine W_bl (c := .block _ _) ?_ | refine W_rt ?_ | refine W_ex ?_ | refine W_end ?_ | refine W_tail (a := .region _ _) ?_ | refine W_tail (a := .cond _ _ _) ?_ | refine W_tail (a := .ret) ?_ | refine W_tail (a := .exit _) ?_ | refine W_tail (a := .block _ _) ?_ | refine QB_normal ?_ | refine QB_exit ?_ | refine QB_ret ?_ | refine QB_out (by decide) ?_ | refine QL_next ?_ | refine QL_exit ?_ | refine QL_ret ?_ | refine QL_out (by decide) ?_ | (show Fin _ _ .ret _; exact Fin_ret (by first | (simp; done) | (simp; with_reducible rfl))) | (show Fin _ _ .normal _; exact Fin_end (by first | (simp; done) | (simp; with_reducible rfl))))
    exact hQ
  | succ d ih =>
    intro j s st hj hr hc
    have h1 : (j : Int) < 8 := by omega
    have h1' : j < 8 := by omega
    have hw := wrapS j 8 h1' (by omega)
    have g1 := f_and s
    have g2 := f_shr s
    have g3 := f_poly (s >>> 1)
    have ih' := ih (j + 1) (Crc.Z s)
    have hr' : r = Crc.Zn d (Crc.Z s) := hr
    rcases odd_cases s with ⟨h2, h3⟩ | ⟨h2, h3⟩
    · rw [h2] at g1
      rw [h3] at ih' hr'
      generalize Crc.I s = x at *
      generalize Crc.I (s >>> 1) = y at *
      generalize (s >>> 1) ^^^ Crc.poly = z at *
      refine W_round hc ?_
      unfold c55_l1
      repeat (first | refine W_assoc ?_ | (show W _ (.seq (.region _ _) _) _ _; refine W_reg (by simp; with_reducible rfl) ?_) | (show R _ _ _ (_ :: _) _ _ _ _; refine R_op (by simp (maxSteps := 2000000) [h1, h1', hw, g1, g2, g3]; with_reducible rfl) ?_) | (show R _ _ _ [] _ _ _ _; refine R_nil (by simp; with_reducible rfl) ?_) | (show W _ (.seq (.cond _ _ _) _) _ _; first | refine W_ct (by first | (simp [h1, h1', hw, g1, g2, g3]; done) | fail) ?_ | refine W_cf (by first | (simp [h1, h1', hw, g1, g2, g3]; done) | fail) ?_) | refine W_skip ?_ | refine W_bl (c := .seq _ _) ?_ | refine W_bl (c := .region _ _) ?_ | refine W_bl (c := .cond _ _ _) ?_ | refine W_bl (c := .block _ _) ?_ | refine W_rt ?_ | refine W_ex ?_ | refine W_end ?_ | refine W_tail (a := .region _ _) ?_ | refine W_tail (a := .cond _ _ _) ?_ | refine W_tail (a := .ret) ?_ | refine W_tail (a := .exit _) ?_ | refine W_tail (a := .block _ _) ?_ | refine QB_normal ?_ | refine QB_exit ?_ | refine QB_ret ?_ | refine QB_out (by decide) ?_ | refine QL_next ?_ | refine QL_exit ?_ | refine QL_ret ?_ | refine QL_out (by decide) ?_ | (show Fin _ _ .ret _; exact Fin_ret (by first | (simp; done) | (simp; with_reducible rfl))) | (show Fin _ _ .normal _; exact Fin_end (by first | (simp; done) | (simp; with_reducible rfl))))
      refine ih' _ ?_ hr' ?_
      · omega
      · simp; try rfl
    · rw [h3] at ih' hr'
      generalize hx : Crc.I s % 2 = o at *
      generalize Crc.I s = x at *
      generalize (s >>> 1) = z at *
      refine W_round hc ?_
      unfold c55_l1
      repeat (first | refine W_assoc ?_ | (show W _ (.seq (.region _ _) _) _ _; refine W_reg (by simp; with_reducible rfl) ?_) | (show R _ _ _ (_ :: _) _ _ _ _; refine R_op (by simp (maxSteps := 2000000) [h1, h1', hw, g1, g2, h2]; with_reducible rfl) ?_) | (show R _ _ _ [] _ _ _ _; refine R_nil (by simp; with_reducible rfl) ?_) | (show W _ (.seq (.cond _ _ _) _) _ _; first | refine W_ct (by first | (simp [h1, h1', hw, g1, g2, h2]; done) | fail) ?_ | refine W_cf (by first | (simp [h1, h1', hw, g1, g2, h2]; done) | fail) ?_) | refine W_skip ?_ | refine W_bl (c := .seq _ _) ?_ | refine W_bl (c := .region _ _) ?_ | refine W_bl (c := .cond _ _ _) ?_ | refine W_bl (c := .block _ _) ?_ | refine W_rt ?_ | refine W_ex ?_ | refine W_end ?_ | refine W_tail (a := .region _ _) ?_ | refine W_tail (a := .cond _ _ _) ?_ | refine W_tail (a := .ret) ?_ | refine W_tail (a := .exit _) ?_ | refine W_tail (a := .block _ _) ?_ | refine QB_normal ?_ | refine QB_exit ?_ | refine QB_ret ?_ | refine QB_out (by decide) ?_ | refine QL_next ?_ | refine QL_exit ?_ | refine QL_ret ?_ | refine QL_out (by decide) ?_ | (show Fin _ _ .ret _; exact Fin_ret (by first | (simp; done) | (simp; with_reducible rfl))) | (show Fin _ _ .normal _; exact Fin_end (by first | (simp; done) | (simp; with_reducible rfl))))
      refine ih' _ ?_ hr' ?_
      · omega
      · simp; try rfl

theorem more_loop (l : List Int) (hl : l.length ≤ 1000000) (hb : ∀ a ∈ l, 0 ≤ a ∧ a ≤ 255) : ∀ (d i : Nat) (s : BitVec 32) (st : ASt), i + d = l.length → canon [0, 10, 11, 12] st = ⟨[.int .u32 (Crc.I s), .top, .top, .top, .top, .top, .top, .top, .top, .top, .ro 1 (enc (eInt .u8) l) false, .int .i64 l.length, .int .i64 i, .top, .top, .top, .top, .top, .top, .top, .top, .top, .top, .top, .top, .top, .top, .top, .top, .top, .top, .top, .top, .top], [], 0, 0⟩ →
    W T c55_k0 st (Lift.Fin c55 (.int .u32 (Crc.I (Crc.ones ^^^ Crc.run s (l.drop i))), [])) := by
  intro d
  induction d with
  | zero =>
    intro i s st hi hc
    obtain rfl : i = l.length := by omega
    have g1 := f_not s
    rw [List.drop_length, show Crc.run s [] = s from rfl]
    generalize Crc.I s = x at *
    unfold c55_k0
    refine W_round hc ?_
    unfold c55_l0
    repeat (first | refine W_assoc ?_ | (show W _ (.seq (.region _ _) _) _ _; refine W_reg (by simp; with_reducible rfl) ?_) | (show R _ _ _ (_ :: _) _ _ _ _; refine R_op (by simp (maxSteps := 2000000) [g1, u32s, u32m]; with_reducible rfl) ?_) | (show R _ _ _ [] _ _ _ _; refine R_nil (by simp; with_reducible rfl) ?_) | (show W _ (.seq (.cond _ _ _) _) _ _; first | refine W_ct (by first | (simp [g1, u32s, u32m]; done) | fail) ?_ | refine W_cf (by first | (simp [g1, u32s, u32m]; done) | fail) ?_) | refine W_skip ?_ | refine W_bl (c := .seq _ _) ?_ | refine W_bl (c := .region _ _) ?_ | refine W_bl (c := .cond _ _ _) ?_ | refine W_bl (c := .block _ _) ?_ | refine W_rt ?_ | refine W_ex ?_ | refine W_end ?_ | refine W_tail (a := .region _ _) ?_ | refine W_tail (a := .cond _ _ _) ?_ | refine W_tail (a := .ret) ?_ | refine W_tail (a := .exit _) ?_ | refine W_tail (a := .block _ _) ?_ | refine QB_normal ?_ | refine QB_exit ?_ | refine QB_ret ?_ | refine QB_out (by decide) ?_ | refine QL_next ?_ | refine QL_exit ?_ | refine QL_ret ?_ | refine QL_out (by decide) ?_ | (show Fin _ _ .ret _; exact Fin_ret (by first | (simp [c55]; done) | (simp [c55]; with_reducible rfl))) | (show Fin _ _ .normal _; exact Fin_end (by first | (simp [c55]; done) | (simp [c55]; with_reducible rfl))))
  | succ d ih =>
    intro i s st hi hc
    have hlt : i < l.length := by omega
    have hlt' : (i : Int) < l.length := by omega
    have hw := wrapS i _ hlt (by omega)
    have hx := hb _ (List.getElem_mem hlt)
    have g1 := f_conv l[i] hx
    have g2 := f_xor s l[i] hx
    have ih' := ih (i + 1) (Crc.eat s l[i])
    rw [List.drop_eq_getElem_cons hlt, show Crc.run s (l[i] :: l.drop (i + 1)) = Crc.run (Crc.eat s l[i]) (l.drop (i + 1)) from rfl]
    unfold c55_k0
    refine W_round hc ?_
    unfold c55_l0
    repeat (first | refine W_assoc ?_ | (show W _ (.seq (.region _ _) _) _ _; refine W_reg (by simp; with_reducible rfl) ?_) | (show R _ _ _ (_ :: _) _ _ _ _; refine R_op (by simp (maxSteps := 2000000) [hlt, hlt', hw, g1, g2]; with_reducible rfl) ?_) | (show R _ _ _ [] _ _ _ _; refine R_nil (by simp; with_reducible rfl) ?_) | (show W _ (.seq (.cond _ _ _) _) _ _; first | refine W_ct (by first | (simp [hlt, hlt', hw, g1, g2]; done) | fail) ?_ | refine W_cf (by first | (simp [hlt, hlt', hw, g1, g2]; done) | fail) ?_) | refine W_skip ?_ | refine W_bl (c := .seq _ _) ?_ | refine W_bl (c := .region _ _) ?_ | refine W_bl (c := .cond _ _ _) ?_ | refine W_bl (c := .block _ _) ?_ | refine W_rt ?_ | refine W_ex ?_ | refine W_end ?_ | refine W_tail (a := .region _ _) ?_ | refine W_tail (a := .cond _ _ _) ?_ | refine W_tail (a := .ret) ?_ | refine W_tail (a := .exit _) ?_ | refine W_tail (a := .block _ _) ?_ | refine QB_normal ?_ | refine QB_exit ?_ | refine QB_ret ?_ | refine QB_out (by decide) ?_ | refine QL_next ?_ | refine QL_exit ?_ | refine QL_ret ?_ | refine QL_out (by decide) ?_ | (show Fin _ _ .ret _; exact Fin_ret (by first | (simp; done) | (simp; with_reducible rfl))) | (show Fin _ _ .normal _; exact Fin_end (by first | (simp; done) | (simp; with_reducible rfl))))
    refine more_in l i _ _ (Crc.eat s l[i]) ?_ 8 0 (s ^^^ Crc.B l[i]) _ ?_ rfl ?_
    · repeat (first | refine W_assoc ?_ | (show W _ (.seq (.region _ _) _) _ _; refine W_reg (by simp; with_reducible rfl) ?_) | (show R _ _ _ (_ :: _) _ _ _ _; refine R_op (by simp (maxSteps := 2000000) [hw]; with_reducible rfl) ?_) | (show R _ _ _ [] _ _ _ _; refine R_nil (by simp; with_reducible rfl) ?_) | (show W _ (.seq (.cond _ _ _) _) _ _; first | refine W_ct (by first | (simp [hw]; done) | fail) ?_ | refine W_cf (by first | (simp [hw]; done) | fail) ?_) | refine W_skip ?_ | refine W_bl (c := .seq _ _) ?_ | refine W_bl (c := .region _ _) ?_ | refine W_bl (c := .cond _ _ _) ?_ | refine W_bl (c := .block _ _) ?_ | refine W_rt ?_ | refine W_ex ?_ | refine W_end ?_ | refine W_tail (a := .region _ _) ?_ | refine W_tail (a := .cond _ _ _) ?_ | refine W_tail (a := .ret) ?_ | refine W_tail (a := .exit _) ?_ | refine W_tail (a := .block _ _) ?_ | refine QB_normal ?_ | refine QB_exit ?_ | refine QB_ret ?_ | refine QB_out (by decide) ?_ | refine QL_next ?_ | refine QL_exit ?_ | refine QL_ret ?_ | refine QL_out (by decide) ?_ | (show Fin _ _ .ret _; exact Fin_ret (by first | (simp; done) | (simp; with_reducible rfl))) | (show Fin _ _ .normal _; exact Fin_end (by first | (simp; done) | (simp; with_reducible rfl))))
      refine ih' _ ?_ ?_
      · omega
      · simp; try rfl
    · omega
    · simp; try rfl

theorem V_More (s : BitVec 32) (l : List Int) (hl : l.length ≤ 1000000) (hb : ∀ a ∈ l, 0 ≤ a ∧ a ≤ 255) : FV (F T) 55 [.int .u32 (Crc.I s), .ro 1 (enc (eInt .u8) l) false] = some (.int .u32 (Crc.I (Crc.ones ^^^ Crc.run (Crc.ones ^^^ s) l))) := by
  have hF : F T 55 [.int .u32 (Crc.I s), .ro 1 (enc (eInt .u8) l) false] [] = some (.int .u32 (Crc.I (Crc.ones ^^^ Crc.run (Crc.ones ^^^ s) l)), []) := by
    have g1 := f_not s
    have hL := more_loop l hl hb l.length 0 (Crc.ones ^^^ s)
    rw [List.drop_zero] at hL
    generalize Crc.I s = x at *
    generalize Crc.ones ^^^ s = z at *
    refine F_W T55 ?_
    simp only [c55, c55_b, Lift.start]
    repeat (first | refine W_assoc ?_ | (show W _ (.seq (.region _ _) _) _ _; refine W_reg (by simp; with_reducible rfl) ?_) | (show R _ _ _ (_ :: _) _ _ _ _; refine R_op (by simp (maxSteps := 2000000) [g1, u32s, u32m]; with_reducible rfl) ?_) | (show R _ _ _ [] _ _ _ _; refine R_nil (by simp; with_reducible rfl) ?_) | (show W _ (.seq (.cond _ _ _) _) _ _; first | refine W_ct (by first | (simp [g1, u32s, u32m]; done) | fail) ?_ | refine W_cf (by first | (simp [g1, u32s, u32m]; done) | fail) ?_) | refine W_skip ?_ | refine W_bl (c := .seq _ _) ?_ | refine W_bl (c := .region _ _) ?_ | refine W_bl (c := .cond _ _ _) ?_ | refine W_bl (c := .block _ _) ?_ | refine W_rt ?_ | refine W_ex ?_ | refine W_end ?_ | refine W_tail (a := .region _ _) ?_ | refine W_tail (a := .cond _ _ _) ?_ | refine W_tail (a := .ret) ?_ | refine W_tail (a := .exit _) ?_ | refine W_tail (a := .block _ _) ?_ | refine QB_normal ?_ | refine QB_exit ?_ | refine QB_ret ?_ | refine QB_out (by decide) ?_ | refine QL_next ?_ | refine QL_exit ?_ | refine QL_ret ?_ | refine QL_out (by decide) ?_ | (show Fin _ _ .ret _; exact Fin_ret (by first | (simp; done) | (simp; with_reducible rfl))) | (show Fin _ _ .normal _; exact Fin_end (by first | (simp; done) | (simp; with_reducible rfl))))
    refine hL _ ?_ ?_
    · omega
    · simp; try rfl
  simpa using FV_of hF

theorem F_Of (l : List Int) (hl : l.length ≤ 1000000) (hb : ∀ a ∈ l, 0 ≤ a ∧ a ≤ 255) : F T 52 [.ro 1 (enc (eInt .u8) l) false] [] = some (.int .u32 (Crc.I (Crc.crc l)), []) := by
  have h := V_More 0#32 l hl hb
  rw [show Crc.ones ^^^ 0#32 = Crc.ones from by decide, show Crc.I 0#32 = 0 from rfl, show Crc.ones ^^^ Crc.run Crc.ones l = Crc.crc l from rfl] at h
  refine F_W T52 ?_
  simp only [c52, c52_b, Lift.start]
  repeat (first | refine W_assoc ?_ | (show W _ (.seq (.region _ _) _) _ _; refine W_reg (by simp; with_reducible rfl) ?_) | (show R _ _ _ (_ :: _) _ _ _ _; refine R_op (by simp (maxSteps := 2000000) [h]; with_reducible rfl) ?_) | (show R _ _ _ [] _ _ _ _; refine R_nil (by simp; with_reducible rfl) ?_) | (show W _ (.seq (.cond _ _ _) _) _ _; first | refine W_ct (by first | (simp [h]; done) | fail) ?_ | refine W_cf (by first | (simp [h]; done) | fail) ?_) | refine W_skip ?_ | refine W_bl (c := .seq _ _) ?_ | refine W_bl (c := .region _ _) ?_ | refine W_bl (c := .cond _ _ _) ?_ | refine W_bl (c := .block _ _) ?_ | refine W_rt ?_ | refine W_ex ?_ | refine W_end ?_ | refine W_tail (a := .region _ _) ?_ | refine W_tail (a := .cond _ _ _) ?_ | refine W_tail (a := .ret) ?_ | refine W_tail (a := .exit _) ?_ | refine W_tail (a := .block _ _) ?_ | refine QB_normal ?_ | refine QB_exit ?_ | refine QB_ret ?_ | refine QB_out (by decide) ?_ | refine QL_next ?_ | refine QL_exit ?_ | refine QL_ret ?_ | refine QL_out (by decide) ?_ | (show Fin _ _ .ret _; exact Fin_ret (by first | (simp [c52]; done) | (simp [c52]; with_reducible rfl))) | (show Fin _ _ .normal _; exact Fin_end (by first | (simp [c52]; done) | (simp [c52]; with_reducible rfl))))

theorem V_Of (l : List Int) (hl : l.length ≤ 1000000) (hb : ∀ a ∈ l, 0 ≤ a ∧ a ≤ 255) : FV (F T) 52 [.ro 1 (enc (eInt .u8) l) false] = some (.int .u32 (Crc.I (Crc.crc l))) := by
  simpa using FV_of (F_Of l hl hb)

end Go.Proofs.Ytleeafkkgepblaa.CrcC
