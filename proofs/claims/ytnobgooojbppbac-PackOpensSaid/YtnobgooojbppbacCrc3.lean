/- Sums of bytes: what the document's functions come to. -/
import Derived.Test.YtnobgooojbppbacCrc2
set_option linter.all false
set_option linter.unusedSimpArgs false
set_option maxRecDepth 100000
set_option maxHeartbeats 4000000
namespace Go.Proofs.Ytnobgooojbppbac.CrcC
open Go Go.RowKit Go.Proofs.Ytnobgooojbppbac.Lift Go.Proofs.Ytnobgooojbppbac.TOC Go.Proofs.Ytnobgooojbppbac.Base Go.Proofs.Ytnobgooojbppbac

theorem f_div (s : BitVec 32) : IntKind.u32.wrap ((Crc.I s).tdiv 2) = Crc.I (s >>> 1) := by
  have h1 := Crc.I_lo s
  have h2 := Crc.I_hi s
  have h3 := Crc.I_half s
  rw [Int.tdiv_eq_ediv_of_nonneg h1, IntKind.wrap_u32]
  omega
theorem f_rem (s : BitVec 32) : (Crc.I s).tmod 2 = Crc.I s % 2 := Int.tmod_eq_emod_of_nonneg (Crc.I_lo s)

theorem of_in (l : List Int) (i : Int) (b : SCode) (Q : AEx → ASt → Prop) (r : BitVec 32)
    (hQ : W T b ⟨[.str (bs l), .top, .top, .int .u32 (Crc.I r), .int .i64 i, .int .u32 0, .int .i64 8, .top, .top, .top, .top, .top, .top, .top, .top, .top, .top, .top, .int .i64 8, .bool false, .top, .top, .top, .top, .top, .top, .top, .top, .top, .top, .top, .top, .top, .top, .top, .top], [], 128, 0⟩ Q) :
    ∀ (d j : Nat) (s c : BitVec 32) (st : ASt), j + d = 8 → Crc.I c < 2 ^ d → r = Crc.Zn d (s ^^^ c) → canon [0, 3, 4, 5, 6] st = ⟨[.str (bs l), .top, .top, .int .u32 (Crc.I s), .int .i64 i, .int .u32 (Crc.I c), .int .i64 j, .top, .top, .top, .top, .top, .top, .top, .top, .top, .top, .top, .top, .top, .top, .top, .top, .top, .top, .top, .top, .top, .top, .top, .top, .top, .top, .top, .top, .top], [], 0, 0⟩ →
      W T (.seq (.block 2 (.loop [0, 3, 4, 5, 6] c93_l1)) b) st Q := by
  intro d
  induction d with
  | zero =>
    intro j s c st hj hc0 hr hc
    obtain rfl : j = 8 := by omega
    have hcz : c = 0#32 := Crc.I_inj (by have := Crc.I_lo c; simp at hc0; show Crc.I c = 0; omega)
    subst hcz
    rw [show Crc.Zn 0 (s ^^^ 0#32) = s by simp [Crc.Zn]] at hr
    subst hr
    rw [show Crc.I 0#32 = 0 from rfl] at hc
    refine W_round hc ?_
    unfold c93_l1
    repeat (first | refine W_assoc ?_ | (show W _ (.seq (.region _ _) _) _ _; refine W_reg (by simp; with_reducible rfl) ?_) | (show R _ _ _ (_ :: _) _ _ _ _; refine R_op (by simp (maxSteps := 2000000); with_reducible rfl) ?_) | (show R _ _ _ [] _ _ _ _; refine R_nil (by simp; with_reducible rfl) ?_) | (show W _ (.seq (.cond _ _ _) _) _ _; first | refine W_ct (by first | (simp; done) | fail) ?_ | refine W_cf (by first | (simp; done) | fail) ?_) | refine W_skip ?_ | refine W_bl (c := .seq _ _) ?_ | refine W_bl (c := .region _ _) ?_ | refine W_bl (c := .cond _ _ _) ?_ | refine W_bl (c := .block _ _) ?_ | refine W_rt ?_ | refine W_ex ?_ | refine W_end ?_ | refine W_tail (a := .region _ _) ?_ | refine W_tail (a := .cond _ _ _) ?_ | refine W_tail (a := .ret) ?_ | refine W_tail (a := .exit _) ?_ | refine W_tail (a := .block _ _) ?_ | refine QB_normal ?_ | refine QB_exit ?_ | refine QB_ret ?_ | refine QB_out (by decide) ?_ | refine QL_next ?_ | refine QL_exit ?_ | refine QL_ret ?_ | refine QL_out (by decide) ?_ | (show Fin _ _ .ret _; exact Fin_ret (by first | (simp; done) | (simp; with_reducible rfl))) | (show Fin _ _ .normal _; exact Fin_end (by first | (simp; done) | (simp; with_reducible rfl))))
    exact hQ
  | succ d ih =>
    intro j s c st hj hc0 hr hc
    have h1 : (j : Int) < 8 := by omega
    have h1' : j < 8 := by omega
    have hw := wrapS j 8 h1' (by omega)
    have g1 := f_rem s
    have g2 := f_rem c
    have g3 := f_div s
    have g4 := f_div c
    have g5 := f_poly (s >>> 1)
    have hc2 : Crc.I (c >>> 1) < 2 ^ d := by rw [← Crc.I_half]; rw [Int.pow_succ] at hc0; omega
    have hr' : r = Crc.Zn d (Crc.Z (s ^^^ c)) := hr
    by_cases o : Crc.I s % 2 = Crc.I c % 2
    · have ih' := ih (j + 1) (s >>> 1) (c >>> 1)
      rw [Crc.Z_xor_even o] at hr'
      generalize Crc.I s % 2 = os at *
      generalize Crc.I c % 2 = oc at *
      generalize Crc.I s = x at *
      generalize Crc.I c = y at *
      refine W_round hc ?_
      unfold c93_l1
      repeat (first | refine W_assoc ?_ | (show W _ (.seq (.region _ _) _) _ _; refine W_reg (by simp; with_reducible rfl) ?_) | (show R _ _ _ (_ :: _) _ _ _ _; refine R_op (by simp (maxSteps := 2000000) [h1, h1', hw, g1, g2, g3, g4, o]; with_reducible rfl) ?_) | (show R _ _ _ [] _ _ _ _; refine R_nil (by simp; with_reducible rfl) ?_) | (show W _ (.seq (.cond _ _ _) _) _ _; first | refine W_ct (by first | (simp [h1, h1', hw, g1, g2, g3, g4, o]; done) | fail) ?_ | refine W_cf (by first | (simp [h1, h1', hw, g1, g2, g3, g4, o]; done) | fail) ?_) | refine W_skip ?_ | refine W_bl (c := .seq _ _) ?_ | refine W_bl (c := .region _ _) ?_ | refine W_bl (c := .cond _ _ _) ?_ | refine W_bl (c := .block _ _) ?_ | refine W_rt ?_ | refine W_ex ?_ | refine W_end ?_ | refine W_tail (a := .region _ _) ?_ | refine W_tail (a := .cond _ _ _) ?_ | refine W_tail (a := .ret) ?_ | refine W_tail (a := .exit _) ?_ | refine W_tail (a := .block _ _) ?_ | refine QB_normal ?_ | refine QB_exit ?_ | refine QB_ret ?_ | refine QB_out (by decide) ?_ | refine QL_next ?_ | refine QL_exit ?_ | refine QL_ret ?_ | refine QL_out (by decide) ?_ | (show Fin _ _ .ret _; exact Fin_ret (by first | (simp; done) | (simp; with_reducible rfl))) | (show Fin _ _ .normal _; exact Fin_end (by first | (simp; done) | (simp; with_reducible rfl))))
      refine ih' _ ?_ hc2 hr' ?_
      · omega
      · simp; try rfl
    · have ih' := ih (j + 1) ((s >>> 1) ^^^ Crc.poly) (c >>> 1)
      rw [Crc.Z_xor_odd o] at hr'
      generalize Crc.I s % 2 = os at *
      generalize Crc.I c % 2 = oc at *
      generalize Crc.I s = x at *
      generalize Crc.I c = y at *
      refine W_round hc ?_
      unfold c93_l1
      repeat (first | refine W_assoc ?_ | (show W _ (.seq (.region _ _) _) _ _; refine W_reg (by simp; with_reducible rfl) ?_) | (show R _ _ _ (_ :: _) _ _ _ _; refine R_op (by simp (maxSteps := 2000000) [h1, h1', hw, g1, g2, g3, g4, g5, o]; with_reducible rfl) ?_) | (show R _ _ _ [] _ _ _ _; refine R_nil (by simp; with_reducible rfl) ?_) | (show W _ (.seq (.cond _ _ _) _) _ _; first | refine W_ct (by first | (simp [h1, h1', hw, g1, g2, g3, g4, g5, o]; done) | fail) ?_ | refine W_cf (by first | (simp [h1, h1', hw, g1, g2, g3, g4, g5, o]; done) | fail) ?_) | refine W_skip ?_ | refine W_bl (c := .seq _ _) ?_ | refine W_bl (c := .region _ _) ?_ | refine W_bl (c := .cond _ _ _) ?_ | refine W_bl (c := .block _ _) ?_ | refine W_rt ?_ | refine W_ex ?_ | refine W_end ?_ | refine W_tail (a := .region _ _) ?_ | refine W_tail (a := .cond _ _ _) ?_ | refine W_tail (a := .ret) ?_ | refine W_tail (a := .exit _) ?_ | refine W_tail (a := .block _ _) ?_ | refine QB_normal ?_ | refine QB_exit ?_ | refine QB_ret ?_ | refine QB_out (by decide) ?_ | refine QL_next ?_ | refine QL_exit ?_ | refine QL_ret ?_ | refine QL_out (by decide) ?_ | (show Fin _ _ .ret _; exact Fin_ret (by first | (simp; done) | (simp; with_reducible rfl))) | (show Fin _ _ .normal _; exact Fin_end (by first | (simp; done) | (simp; with_reducible rfl))))
      refine ih' _ ?_ hc2 hr' ?_
      · omega
      · simp; try rfl

theorem bs_at (r : List Int) (i : Nat) (hi : i < r.length) (h : 0 ≤ r[i] ∧ r[i] ≤ 255) (h' : i < (bs r).size) : ((bs r)[i].toNat : Int) = r[i] := by
  have h1 := bs_get? r i
  rw [getElem?_pos (bs r) i h', List.getElem?_eq_getElem hi] at h1
  simp only [Option.map_some, Option.some.injEq] at h1
  rw [h1]
  rw [UInt8.toNat_ofNat']; omega

theorem of_loop (l : List Int) (hl : l.length ≤ 1000000) (hb : ∀ a ∈ l, 0 ≤ a ∧ a ≤ 255) : ∀ (d i : Nat) (s : BitVec 32) (st : ASt), i + d = l.length → canon [0, 3, 4] st = ⟨[.str (bs l), .top, .top, .int .u32 (Crc.I s), .int .i64 i, .top, .top, .top, .top, .top, .top, .top, .top, .top, .top, .top, .top, .top, .top, .top, .top, .top, .top, .top, .top, .top, .top, .top, .top, .top, .top, .top, .top, .top, .top, .top], [], 0, 0⟩ →
    W T c93_k0 st (Lift.Fin c93 (.int .u32 (Crc.I (Crc.ones ^^^ Crc.run s (l.drop i))), [])) := by
  intro d
  induction d with
  | zero =>
    intro i s st hi hc
    obtain rfl : i = l.length := by omega
    have g1 : IntKind.u32.wrap (4294967295 - Crc.I s) = Crc.I (Crc.ones ^^^ s) := by rw [IntKind.wrap_u32]; exact Crc.ones_sub s
    rw [List.drop_length, show Crc.run s [] = s from rfl]
    generalize Crc.I s = x at *
    unfold c93_k0
    refine W_round hc ?_
    unfold c93_l0
    repeat (first | refine W_assoc ?_ | (show W _ (.seq (.region _ _) _) _ _; refine W_reg (by simp; with_reducible rfl) ?_) | (show R _ _ _ (_ :: _) _ _ _ _; refine R_op (by simp (maxSteps := 2000000) [g1]; with_reducible rfl) ?_) | (show R _ _ _ [] _ _ _ _; refine R_nil (by simp; with_reducible rfl) ?_) | (show W _ (.seq (.cond _ _ _) _) _ _; first | refine W_ct (by first | (simp [g1]; done) | fail) ?_ | refine W_cf (by first | (simp [g1]; done) | fail) ?_) | refine W_skip ?_ | refine W_bl (c := .seq _ _) ?_ | refine W_bl (c := .region _ _) ?_ | refine W_bl (c := .cond _ _ _) ?_ | refine W_bl (c := .block _ _) ?_ | refine W_rt ?_ | refine W_ex ?_ | refine W_end ?_ | refine W_tail (a := .region _ _) ?_ | refine W_tail (a := .cond _ _ _) ?_ | refine W_tail (a := .ret) ?_ | refine W_tail (a := .exit _) ?_ | refine W_tail (a := .block _ _) ?_ | refine QB_normal ?_ | refine QB_exit ?_ | refine QB_ret ?_ | refine QB_out (by decide) ?_ | refine QL_next ?_ | refine QL_exit ?_ | refine QL_ret ?_ | refine QL_out (by decide) ?_ | (show Fin _ _ .ret _; exact Fin_ret (by first | (simp [c93]; done) | (simp [c93]; with_reducible rfl))) | (show Fin _ _ .normal _; exact Fin_end (by first | (simp [c93]; done) | (simp [c93]; with_reducible rfl))))
  | succ d ih =>
    intro i s st hi hc
    have hlt : i < l.length := by omega
    have hlt' : (i : Int) < l.length := by omega
    have hw := wrapS i _ hlt (by omega)
    have hx := hb _ (List.getElem_mem hlt)
    have g1 := f_conv l[i] hx
    have g2 := bs_at l i hlt hx (by simpa using hlt)
    have ih' := ih (i + 1) (Crc.eat s l[i])
    rw [List.drop_eq_getElem_cons hlt, show Crc.run s (l[i] :: l.drop (i + 1)) = Crc.run (Crc.eat s l[i]) (l.drop (i + 1)) from rfl]
    have hB := I_B' hx
    unfold c93_k0
    refine W_round hc ?_
    unfold c93_l0
    repeat (first | refine W_assoc ?_ | (show W _ (.seq (.region _ _) _) _ _; refine W_reg (by simp; with_reducible rfl) ?_) | (show R _ _ _ (_ :: _) _ _ _ _; refine R_op (by simp (maxSteps := 2000000) [hlt, hlt', hw, g1, g2, -UInt8.toNat_ofNat']; with_reducible rfl) ?_) | (show R _ _ _ [] _ _ _ _; refine R_nil (by simp; with_reducible rfl) ?_) | (show W _ (.seq (.cond _ _ _) _) _ _; first | refine W_ct (by first | (simp [hlt, hlt', hw, g1, g2, -UInt8.toNat_ofNat']; done) | fail) ?_ | refine W_cf (by first | (simp [hlt, hlt', hw, g1, g2, -UInt8.toNat_ofNat']; done) | fail) ?_) | refine W_skip ?_ | refine W_bl (c := .seq _ _) ?_ | refine W_bl (c := .region _ _) ?_ | refine W_bl (c := .cond _ _ _) ?_ | refine W_bl (c := .block _ _) ?_ | refine W_rt ?_ | refine W_ex ?_ | refine W_end ?_ | refine W_tail (a := .region _ _) ?_ | refine W_tail (a := .cond _ _ _) ?_ | refine W_tail (a := .ret) ?_ | refine W_tail (a := .exit _) ?_ | refine W_tail (a := .block _ _) ?_ | refine QB_normal ?_ | refine QB_exit ?_ | refine QB_ret ?_ | refine QB_out (by decide) ?_ | refine QL_next ?_ | refine QL_exit ?_ | refine QL_ret ?_ | refine QL_out (by decide) ?_ | (show Fin _ _ .ret _; exact Fin_ret (by first | (simp; done) | (simp; with_reducible rfl))) | (show Fin _ _ .normal _; exact Fin_end (by first | (simp; done) | (simp; with_reducible rfl))))
    refine of_in l i _ _ (Crc.eat s l[i]) ?_ 8 0 s (Crc.B l[i]) _ ?_ ?_ rfl ?_
    · repeat (first | refine W_assoc ?_ | (show W _ (.seq (.region _ _) _) _ _; refine W_reg (by simp; with_reducible rfl) ?_) | (show R _ _ _ (_ :: _) _ _ _ _; refine R_op (by simp (maxSteps := 2000000) [hw]; with_reducible rfl) ?_) | (show R _ _ _ [] _ _ _ _; refine R_nil (by simp; with_reducible rfl) ?_) | (show W _ (.seq (.cond _ _ _) _) _ _; first | refine W_ct (by first | (simp [hw]; done) | fail) ?_ | refine W_cf (by first | (simp [hw]; done) | fail) ?_) | refine W_skip ?_ | refine W_bl (c := .seq _ _) ?_ | refine W_bl (c := .region _ _) ?_ | refine W_bl (c := .cond _ _ _) ?_ | refine W_bl (c := .block _ _) ?_ | refine W_rt ?_ | refine W_ex ?_ | refine W_end ?_ | refine W_tail (a := .region _ _) ?_ | refine W_tail (a := .cond _ _ _) ?_ | refine W_tail (a := .ret) ?_ | refine W_tail (a := .exit _) ?_ | refine W_tail (a := .block _ _) ?_ | refine QB_normal ?_ | refine QB_exit ?_ | refine QB_ret ?_ | refine QB_out (by decide) ?_ | refine QL_next ?_ | refine QL_exit ?_ | refine QL_ret ?_ | refine QL_out (by decide) ?_ | (show Fin _ _ .ret _; exact Fin_ret (by first | (simp; done) | (simp; with_reducible rfl))) | (show Fin _ _ .normal _; exact Fin_end (by first | (simp; done) | (simp; with_reducible rfl))))
      refine ih' _ ?_ ?_
      · omega
      · simp; try rfl
    · omega
    · rw [hB]; omega
    · rw [hB]; simp; try rfl

theorem F_ROf (l : List Int) (hl : l.length ≤ 1000000) (hb : ∀ a ∈ l, 0 ≤ a ∧ a ≤ 255) : F T 93 [.str (bs l)] [] = some (.int .u32 (Crc.I (Crc.crc l)), []) := by
  have hL := of_loop l hl hb l.length 0 Crc.ones
  rw [List.drop_zero, show Crc.I Crc.ones = 4294967295 from rfl] at hL
  refine F_W T93 ?_
  simp only [c93, c93_b, Lift.start]
  repeat (first | refine W_assoc ?_ | (show W _ (.seq (.region _ _) _) _ _; refine W_reg (by simp; with_reducible rfl) ?_) | (show R _ _ _ (_ :: _) _ _ _ _; refine R_op (by simp (maxSteps := 2000000); with_reducible rfl) ?_) | (show R _ _ _ [] _ _ _ _; refine R_nil (by simp; with_reducible rfl) ?_) | (show W _ (.seq (.cond _ _ _) _) _ _; first | refine W_ct (by first | (simp; done) | fail) ?_ | refine W_cf (by first | (simp; done) | fail) ?_) | refine W_skip ?_ | refine W_bl (c := .seq _ _) ?_ | refine W_bl (c := .region _ _) ?_ | refine W_bl (c := .cond _ _ _) ?_ | refine W_bl (c := .block _ _) ?_ | refine W_rt ?_ | refine W_ex ?_ | refine W_end ?_ | refine W_tail (a := .region _ _) ?_ | refine W_tail (a := .cond _ _ _) ?_ | refine W_tail (a := .ret) ?_ | refine W_tail (a := .exit _) ?_ | refine W_tail (a := .block _ _) ?_ | refine QB_normal ?_ | refine QB_exit ?_ | refine QB_ret ?_ | refine QB_out (by decide) ?_ | refine QL_next ?_ | refine QL_exit ?_ | refine QL_ret ?_ | refine QL_out (by decide) ?_ | (show Fin _ _ .ret _; exact Fin_ret (by first | (simp; done) | (simp; with_reducible rfl))) | (show Fin _ _ .normal _; exact Fin_end (by first | (simp; done) | (simp; with_reducible rfl))))
  refine hL _ ?_ ?_
  · omega
  · simp; try rfl

theorem V_ROf (l : List Int) (hl : l.length ≤ 1000000) (hb : ∀ a ∈ l, 0 ≤ a ∧ a ≤ 255) : FV (F T) 93 [.str (bs l)] = some (.int .u32 (Crc.I (Crc.crc l))) := by
  simpa using FV_of (F_ROf l hl hb)

theorem V_Four (s : BitVec 32) : FV (F T) 92 [.int .u32 (Crc.I s)] = some (.str (bs (Crc.four s))) := by
  have h1 := Crc.I_lo s
  have h2 := Crc.I_hi s
  have t1 : ∀ k : Int, 0 < k → (Crc.I s).tdiv k = Crc.I s / k := fun k _ => Int.tdiv_eq_ediv_of_nonneg h1
  have t2 : ∀ k : Int, 0 ≤ k → k.tmod 256 = k % 256 := fun k hk => Int.tmod_eq_emod_of_nonneg hk
  have a0 : IntKind.u8.wrap ((Crc.I s).tmod 256) = Crc.byteAt s 0 := by
    rw [t2 _ h1, IntKind.wrap_u8]; unfold Crc.byteAt; simp
  have b1 : IntKind.u32.wrap ((Crc.I s).tdiv 256) = Crc.I s / 256 := by rw [t1 _ (by omega), IntKind.wrap_u32]; omega
  have b2 : IntKind.u32.wrap ((Crc.I s).tdiv 65536) = Crc.I s / 65536 := by rw [t1 _ (by omega), IntKind.wrap_u32]; omega
  have b3 : IntKind.u32.wrap ((Crc.I s).tdiv 16777216) = Crc.I s / 16777216 := by rw [t1 _ (by omega), IntKind.wrap_u32]; omega
  have a1 : IntKind.u8.wrap ((Crc.I s / 256).tmod 256) = Crc.byteAt s 1 := by
    rw [t2 _ (by omega), IntKind.wrap_u8]; unfold Crc.byteAt; rw [show (2 : Int) ^ (8 * 1) = 256 from rfl]; omega
  have a2 : IntKind.u8.wrap ((Crc.I s / 65536).tmod 256) = Crc.byteAt s 2 := by
    rw [t2 _ (by omega), IntKind.wrap_u8]; unfold Crc.byteAt; rw [show (2 : Int) ^ (8 * 2) = 65536 from rfl]; omega
  have a3 : IntKind.u8.wrap (Crc.I s / 16777216) = Crc.byteAt s 3 := by
    rw [IntKind.wrap_u8]; unfold Crc.byteAt; rw [show (2 : Int) ^ (8 * 3) = 16777216 from rfl]
  have hs : ∀ a b c d : Int, strOf ([.int .u8 a] :: [.int .u8 b] :: [.int .u8 c] :: enc (eInt .u8) [d]) = bs [a, b, c, d] := fun _ _ _ _ => rfl
  unfold Crc.four
  generalize Crc.I s / 256 = y1 at *
  generalize Crc.I s / 65536 = y2 at *
  generalize Crc.I s / 16777216 = y3 at *
  generalize Crc.byteAt s 0 = z0 at *
  generalize Crc.byteAt s 1 = z1 at *
  generalize Crc.byteAt s 2 = z2 at *
  generalize Crc.byteAt s 3 = z3 at *
  generalize Crc.I s = x at *
  have hF : F T 92 [.int .u32 x] [] = some (.str (bs [z0, z1, z2, z3]), []) := by
    refine F_W T92 ?_
    simp only [c92, c92_b, Lift.start]
    repeat (first | refine W_assoc ?_ | (show W _ (.seq (.region _ _) _) _ _; refine W_reg (by simp; with_reducible rfl) ?_) | (show R _ _ _ (_ :: _) _ _ _ _; refine R_op (by simp (maxSteps := 2000000) [a0, a1, a2, a3, b1, b2, b3, hs]; with_reducible rfl) ?_) | (show R _ _ _ [] _ _ _ _; refine R_nil (by simp; with_reducible rfl) ?_) | (show W _ (.seq (.cond _ _ _) _) _ _; first | refine W_ct (by first | (simp [a0, a1, a2, a3, b1, b2, b3, hs]; done) | fail) ?_ | refine W_cf (by first | (simp [a0, a1, a2, a3, b1, b2, b3, hs]; done) | fail) ?_) | refine W_skip ?_ | refine W_bl (c := .seq _ _) ?_ | refine W_bl (c := .region _ _) ?_ | refine W_bl (c := .cond _ _ _) ?_ | refine W_bl (c := .block _ _) ?_ | refine W_rt ?_ | refine W_ex ?_ | refine W_end ?_ | refine W_tail (a := .region _ _) ?_ | refine W_tail (a := .cond _ _ _) ?_ | refine W_tail (a := .ret) ?_ | refine W_tail (a := .exit _) ?_ | refine W_tail (a := .block _ _) ?_ | refine QB_normal ?_ | refine QB_exit ?_ | refine QB_ret ?_ | refine QB_out (by decide) ?_ | refine QL_next ?_ | refine QL_exit ?_ | refine QL_ret ?_ | refine QL_out (by decide) ?_ | (show Fin _ _ .ret _; exact Fin_ret (by first | (simp [c92]; done) | (simp [c92]; with_reducible rfl))) | (show Fin _ _ .normal _; exact Fin_end (by first | (simp [c92]; done) | (simp [c92]; with_reducible rfl))))
  simpa using FV_of hF

theorem V_RSeal (l : List Int) (hl : l.length ≤ 1000000) (hb : ∀ a ∈ l, 0 ≤ a ∧ a ≤ 255) : FV (F T) 75 [.str (bs l)] = some (.str (bs (l ++ Crc.four (Crc.crc l)))) := by
  have v1 := V_ROf l hl hb
  have v2 := V_Four (Crc.crc l)
  have e1 : l.length + 4 ≤ 4611686018427387904 := by omega
  have e2 : (Crc.four (Crc.crc l)).length = 4 := rfl
  have e3 : bs (l ++ Crc.four (Crc.crc l)) = bs l ++ bs (Crc.four (Crc.crc l)) := bs_append _ _
  rw [e3]
  generalize Crc.four (Crc.crc l) = z at *
  generalize Crc.I (Crc.crc l) = x at *
  have hF : F T 75 [.str (bs l)] [] = some (.str (bs l ++ bs z), []) := by
    refine F_W T75 ?_
    simp only [c75, c75_b, Lift.start]
    repeat (first | refine W_assoc ?_ | (show W _ (.seq (.region _ _) _) _ _; refine W_reg (by simp; with_reducible rfl) ?_) | (show R _ _ _ (_ :: _) _ _ _ _; refine R_op (by simp (maxSteps := 2000000) [v1, v2, e1, e2]; with_reducible rfl) ?_) | (show R _ _ _ [] _ _ _ _; refine R_nil (by simp; with_reducible rfl) ?_) | (show W _ (.seq (.cond _ _ _) _) _ _; first | refine W_ct (by first | (simp [v1, v2, e1, e2]; done) | fail) ?_ | refine W_cf (by first | (simp [v1, v2, e1, e2]; done) | fail) ?_) | refine W_skip ?_ | refine W_bl (c := .seq _ _) ?_ | refine W_bl (c := .region _ _) ?_ | refine W_bl (c := .cond _ _ _) ?_ | refine W_bl (c := .block _ _) ?_ | refine W_rt ?_ | refine W_ex ?_ | refine W_end ?_ | refine W_tail (a := .region _ _) ?_ | refine W_tail (a := .cond _ _ _) ?_ | refine W_tail (a := .ret) ?_ | refine W_tail (a := .exit _) ?_ | refine W_tail (a := .block _ _) ?_ | refine QB_normal ?_ | refine QB_exit ?_ | refine QB_ret ?_ | refine QB_out (by decide) ?_ | refine QL_next ?_ | refine QL_exit ?_ | refine QL_ret ?_ | refine QL_out (by decide) ?_ | (show Fin _ _ .ret _; exact Fin_ret (by first | (simp [c75]; done) | (simp [c75]; with_reducible rfl))) | (show Fin _ _ .normal _; exact Fin_end (by first | (simp [c75]; done) | (simp [c75]; with_reducible rfl))))
  simpa using FV_of hF

end Go.Proofs.Ytnobgooojbppbac.CrcC
