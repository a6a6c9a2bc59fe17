/- A reading of the program's code by values alone: numbers, texts, cuts and new rows. -/
import Derived.Test.YtlopfjipndhpfabLiftE
import Derived.Laws.BytesString
import Derived.Laws.IdiomStrings
import Derived.Lib.ConvBytes
set_option linter.unusedVariables false
set_option linter.unusedSimpArgs false
namespace Go.Proofs.Ytlopfjipndhpfab.Lift
open Go Go.RowKit

variable {P : Program} {w : World} {X : Nat → Prop} {μ : Mu} {o : Oper} {a : Act} {σ : List AV} {H : Heap} {base : Nat} {v : AV} {adds : List AObj}

theorem div_rep {op : BinOp} {t : TypeId} {k : IntKind} {x y : Int} (hop : op = .quo ∨ op = .rem) (h : binInt op k x y = some v) : ∃ v', (binOp op t (.int k x) (.int k y)).run P w = .ok v' w ∧ Rep w X μ v v' := by
  by_cases hy : y = 0
  · rcases hop with rfl | rfl <;> simp [binInt, hy] at h
  · rcases hop with rfl | rfl
    · simp [binInt, hy] at h; subst h
      exact ⟨_, by simp [binOp, Op.intDiv, hy], .int _ _⟩
    · simp [binInt, hy] at h; subst h
      exact ⟨_, by simp [binOp, Op.intDiv, hy], .int _ _⟩

theorem binInt_rep {op : BinOp} {t : TypeId} {k : IntKind} {x y : Int} (h1 : op ≠ .shl) (h2 : op ≠ .shr) (h : binInt op k x y = some v) : ∃ v', (binOp op t (.int k x) (.int k y)).run P w = .ok v' w ∧ Rep w X μ v v' := by
  by_cases hop : op = .quo ∨ op = .rem
  · exact div_rep hop h
  cases op <;> simp only [binInt, gradedCmp, Option.map_some, Option.some.injEq] at h
  all_goals first
    | (exact absurd (.inl rfl) hop)
    | (exact absurd (.inr rfl) hop)
    | (exact absurd rfl h1)
    | (exact absurd rfl h2)
    | (subst h; refine ⟨_, by simp only [binOp, ne_eq, not_true_eq_false, if_false, Op.intArith, Op.intBits, Op.intCmp, Sem.run_pure]; rfl, ?_⟩; first | exact .int _ _ | exact .bool _)

theorem guard_int {op : BinOp} {t : TypeId} {X Y : Operand} {k k' : IntKind} {x y : Int} : (eqGuard op t X Y (.int k x) (.int k' y)).run P w = .ok () w := by
  cases op <;> simp [eqGuard]
theorem guard_bool {op : BinOp} {t : TypeId} {X Y : Operand} {x y : Bool} : (eqGuard op t X Y (.bool x) (.bool y)).run P w = .ok () w := by
  cases op <;> simp [eqGuard]
theorem guard_str {op : BinOp} {t : TypeId} {X Y : Operand} {x y : ByteArray} : (eqGuard op t X Y (.string x) (.string y)).run P w = .ok () w := by
  cases op <;> simp [eqGuard]
theorem guard_ptr {op : BinOp} {t : TypeId} {X Y : Operand} {x y : Option Addr} : (eqGuard op t X Y (.pointer x) (.pointer y)).run P w = .ok () w := by
  cases op <;> simp [eqGuard]
theorem guard_ifc {op : BinOp} {t u : TypeId} {X Y : Operand} {x : Value} : (eqGuard op t X Y (.iface u x) .nilIface).run P w = .ok () w := by
  cases op <;> simp [eqGuard]

theorem eqIn_bool {d : Nat} {t : TypeId} (h : P.underlying t = some .bool) (x y : Bool) : (Op.equalIn (d + 1) t (.bool x) (.bool y)).run P w = .ok (x == y) w := by simp [Op.equalIn, run_underlying h]
theorem eqIn_pp {d : Nat} {t e : TypeId} (h : P.underlying t = some (.pointer e)) : (Op.equalIn (d + 1) t (.pointer none) (.pointer none)).run P w = .ok true w := by simp [Op.equalIn, run_underlying h]
theorem eqIn_pn {d : Nat} {t e : TypeId} (h : P.underlying t = some (.pointer e)) (x : Addr) : (Op.equalIn (d + 1) t (.pointer (some x)) (.pointer none)).run P w = .ok false w := by simp [Op.equalIn, run_underlying h]
theorem eqIn_ii {d : Nat} {t : TypeId} {ms : Array (String × TypeId)} (h : P.underlying t = some (.interface ms)) : (Op.equalIn (d + 1) t .nilIface .nilIface).run P w = .ok true w := by simp [Op.equalIn, run_underlying h]
theorem eqIn_in {d : Nat} {t u : TypeId} {ms : Array (String × TypeId)} (h : P.underlying t = some (.interface ms)) (x : Value) : (Op.equalIn (d + 1) t (.iface u x) .nilIface).run P w = .ok false w := by simp [Op.equalIn, run_underlying h]
theorem bin_eql {t : TypeId} {x y : Value} {b : Bool} (hb : binOp .eql t x y = (do pure (.bool (← Op.equalIn (9999 + 1) t x y)))) (h : (Op.equalIn (9999 + 1) t x y).run P w = .ok b w) : (binOp .eql t x y).run P w = .ok (.bool b) w := by
  rw [hb]; simp [h]
theorem bin_neq {t : TypeId} {x y : Value} {b : Bool} (hb : binOp .neq t x y = (do pure (.bool (!(← Op.equalIn (9999 + 1) t x y))))) (h : (Op.equalIn (9999 + 1) t x y).run P w = .ok b w) : (binOp .neq t x y).run P w = .ok (.bool (!b)) w := by
  rw [hb]; simp [h]

def tagOk (P : Program) (t : TypeId) (X Y : Operand) (tag : Nat) : Prop :=
  (tag = 1 → P.underlying t = some .bool) ∧ (tag = 2 → ∃ e, P.underlying t = some (.pointer e)) ∧ (tag = 3 → (∃ m, P.underlying t = some (.interface m)) ∧ ((∃ c, X = .const c) ∨ ∃ c, Y = .const c))

theorem d_bin (hσ : RelS w X μ a σ) {op : BinOp} {t ty : TypeId} {x y : Operand} (ho : o.op = .binOp op t x y ty) {tag : Nat} (ht : tagOk P t x y tag) {s1 s2 : SOpd} (hx : copd x = some s1) (hy : copd y = some s2)
    (h : binOpA op tag (ev σ s1) (ev σ s2) = some v) : Does P o a w X μ base v adds := by
  have hr1 := hσ.ev hx
  have hr2 := hσ.ev hy
  have key : ∀ v', (eqGuard op t x y (a.eval x) (a.eval y)).run P w = .ok () w → (binOp op t (a.eval x) (a.eval y)).run P w = .ok v' w → Rep w X μ v v' → Does P o a w X μ base v adds := by
    intro v' h1 h2 h3
    exact does_value (by simp [execOp, ho, h1, h2]) h3
  generalize hxe : a.eval x = u1 at *
  generalize hye : a.eval y = u2 at *
  generalize ev σ s1 = e1 at *
  generalize ev σ s2 = e2 at *
  unfold binOpA at h
  split at h
  · -- shl
    split at h
    · cases h
    · rename_i hb
      cases h; cases hr1; cases hr2
      refine key _ guard_int ?_ (.int _ _)
      simp only [binOp, Op.shift, hb, if_false, Sem.run_pure]
  · split at h
    · cases h
    · rename_i hb
      cases h; cases hr1; cases hr2
      refine key _ guard_int ?_ (.int _ _)
      simp only [binOp, Op.shift, hb, if_false, Sem.run_pure]
  · rename_i n1 n2 h1 h2
    split at h
    · rename_i hk
      subst hk
      cases hr1; cases hr2
      obtain ⟨v', hv', hrep⟩ := binInt_rep (P := P) (w := w) (X := X) (μ := μ) (t := t) (by intro e; subst e; simp at h1) (by intro e; subst e; simp at h2) h
      exact key v' guard_int hv' hrep
    · cases h
  · split at h
    · rename_i htag
      cases h; cases hr1; cases hr2
      exact key _ guard_bool (bin_eql rfl (eqIn_bool (ht.1 htag) _ _)) (.bool _)
    · cases h
  · split at h
    · rename_i htag
      cases h; cases hr1; cases hr2
      exact key _ guard_bool (bin_neq rfl (eqIn_bool (ht.1 htag) _ _)) (.bool _)
    · cases h
  · cases h; cases hr1; cases hr2
    exact key _ guard_str (by simp [binOp, Op.stringOp]) (.bool _)
  · cases h; cases hr1; cases hr2
    exact key _ guard_str (by simp [binOp, Op.stringOp, bne]) (.bool _)
  · split at h
    · rename_i hs
      cases h; cases hr1; cases hr2
      refine key _ guard_str ?_ (.str _)
      rename_i p q
      have hmax : ¬ (IntKind.i64.max < ((p.size + q.size : Nat) : Int)) := by
        have : IntKind.i64.max = 9223372036854775807 := by decide
        omega
      simp only [binOp, Op.stringOp]
      rw [if_neg (by simpa using hmax)]
      rfl
    · cases h
  · split at h
    · rename_i htag
      obtain ⟨e, he⟩ := ht.2.1 htag
      cases h; cases hr1; cases hr2
      exact key _ guard_ptr (bin_eql rfl (eqIn_pp he)) (.bool _)
    · cases h
  · split at h
    · rename_i htag
      obtain ⟨e, he⟩ := ht.2.1 htag
      cases h; cases hr1; cases hr2
      exact key _ guard_ptr (bin_neq rfl (eqIn_pp he)) (.bool _)
    · cases h
  · split at h
    · rename_i htag
      obtain ⟨e, he⟩ := ht.2.1 htag
      cases h; cases hr1; cases hr2
      exact key _ guard_ptr (bin_eql rfl (eqIn_pn he _)) (.bool _)
    · cases h
  · split at h
    · rename_i htag
      obtain ⟨e, he⟩ := ht.2.1 htag
      cases h; cases hr1; cases hr2
      exact key _ guard_ptr (bin_neq rfl (eqIn_pn he _)) (.bool _)
    · cases h
  · split at h
    · rename_i htag
      obtain ⟨⟨e, he⟩, hc⟩ := ht.2.2 htag
      cases h; cases hr1; cases hr2
      refine key _ ?_ (bin_eql rfl (eqIn_ii he)) (.bool _)
      rcases hc with ⟨c, rfl⟩ | ⟨c, rfl⟩ <;> simp [eqGuard]
    · cases h
  · split at h
    · rename_i htag
      obtain ⟨⟨e, he⟩, hc⟩ := ht.2.2 htag
      cases h; cases hr1; cases hr2
      refine key _ ?_ (bin_neq rfl (eqIn_ii he)) (.bool _)
      rcases hc with ⟨c, rfl⟩ | ⟨c, rfl⟩ <;> simp [eqGuard]
    · cases h
  · split at h
    · rename_i htag
      obtain ⟨⟨e, he⟩, hc⟩ := ht.2.2 htag
      cases h; cases hr1; cases hr2
      exact key _ guard_ifc (bin_eql rfl (eqIn_in he _)) (.bool _)
    · cases h
  · split at h
    · rename_i htag
      obtain ⟨⟨e, he⟩, hc⟩ := ht.2.2 htag
      cases h; cases hr1; cases hr2
      exact key _ guard_ifc (bin_neq rfl (eqIn_in he _)) (.bool _)
    · cases h
  · cases h

theorem d_neg (hσ : RelS w X μ a σ) {t : TypeId} {x : Operand} (ho : o.op = .unOp .neg t x) {s : SOpd} (hx : copd x = some s) {k : IntKind} {n : Int} (he : ev σ s = .int k n) : Does P o a w X μ base (.int k (k.wrap (0 - n))) adds := by
  have h := rep_int (hσ.ev hx) he
  exact does_value (v' := .int k (k.wrap (0 - n))) (by simp [execOp, ho, h, Op.unary, Op.intArith]) (.int _ _)
theorem d_not (hσ : RelS w X μ a σ) {t : TypeId} {x : Operand} (ho : o.op = .unOp .not t x) {s : SOpd} (hx : copd x = some s) {b : Bool} (he : ev σ s = .bool b) : Does P o a w X μ base (.bool (!b)) adds := by
  have h := rep_bool (hσ.ev hx) he
  exact does_value (v' := .bool (!b)) (by simp [execOp, ho, h, Op.unary]) (.bool _)
theorem d_xor (hσ : RelS w X μ a σ) {t : TypeId} {x : Operand} (ho : o.op = .unOp .xor t x) {s : SOpd} (hx : copd x = some s) {k : IntKind} {n : Int} (he : ev σ s = .int k n) :
    Does P o a w X μ base (.int k (k.wrap (BitVec.ofInt k.bits (if k.signed then -1 else k.max) ^^^ BitVec.ofInt k.bits n).toNat)) adds := by
  have h := rep_int (hσ.ev hx) he
  exact does_value (v' := .int k (k.wrap (BitVec.ofInt k.bits (if k.signed then -1 else k.max) ^^^ BitVec.ofInt k.bits n).toNat)) (by simp [execOp, ho, h, Op.unary, Op.intBits]) (.int _ _)

theorem d_convInt (hσ : RelS w X μ a σ) {src dst : TypeId} {x : Operand} (ho : o.op = .convert src dst x) {s : SOpd} (hx : copd x = some s) {d : TypeDesc} (h1 : P.underlying src = some d) {k : IntKind} (h2 : P.underlying dst = some (.int k)) {k' : IntKind} {n : Int} (he : ev σ s = .int k' n) :
    Does P o a w X μ base (.int k (k.wrap n)) adds := by
  have h := rep_int (hσ.ev hx) he
  exact does_value (v' := .int k (k.wrap n)) (by simp [execOp, ho, h, convert, run_underlying h1, run_underlying h2, Conv.intToInt]) (.int _ _)
theorem d_convStr (hσ : RelS w X μ a σ) {src dst : TypeId} {x : Operand} (ho : o.op = .convert src dst x) {s : SOpd} (hx : copd x = some s) (h1 : P.underlying src = some .string) (h2 : P.underlying dst = some .string) {q : ByteArray} (he : ev σ s = .str q) :
    Does P o a w X μ base (.str q) adds := by
  have h := rep_str (hσ.ev hx) he
  exact does_value (v' := .string q) (by simp [execOp, ho, h, convert, run_underlying h1, run_underlying h2]) (.str _)

theorem d_min (hσ : RelS w X μ a σ) {c : Call} (ho : o.op = .call c) {mx : Bool} (hc : c.callee = .builtin (if mx then .max else .min)) {ss : List SOpd} (hs : c.args.toList.mapM copd = some ss) {k : IntKind} {x y : Int} (he : evs σ ss = [.int k x, .int k y]) :
    Does P o a w X μ base (.int k (if mx then (if x < y then y else x) else (if y < x then y else x))) adds := by
  obtain ⟨l1, r1⟩ := hσ.evs hs
  unfold evs at he
  have hl : c.args.toList.length = 2 := by rw [← l1]; have := congrArg List.length he; simpa using this
  obtain ⟨p, hp, hr0⟩ := r1 0 (.int k x) (by rw [he]; rfl)
  obtain ⟨q, hq, hr1⟩ := r1 1 (.int k y) (by rw [he]; rfl)
  have ha : c.args = #[p, q] := by
    rw [← Array.toList_inj]
    match hcl : c.args.toList, hl with
    | [u, v], _ => rw [hcl] at hp hq; simp at hp hq; simp [hp, hq]
  have e0 := rep_int hr0 rfl
  have e1 := rep_int hr1 rfl
  refine does_value (v' := .int k (if mx then (if x < y then y else x) else (if y < x then y else x))) ?_ (.int _ _)
  cases mx
  · simp only [Bool.false_eq_true, if_false] at hc ⊢
    by_cases h : y < x <;> simp [execOp, ho, resolve, hc, ha, invoke, builtin, Builtin.min_, Builtin.min2, e0, e1, h]
  · simp only [if_true] at hc ⊢
    by_cases h : x < y <;> simp [execOp, ho, resolve, hc, ha, invoke, builtin, Builtin.max_, Builtin.max2, e0, e1, h]

end Go.Proofs.Ytlopfjipndhpfab.Lift
