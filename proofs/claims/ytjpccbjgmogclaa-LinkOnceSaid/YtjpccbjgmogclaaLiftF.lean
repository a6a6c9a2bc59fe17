/- A reading of the program's code by values alone: numbers, texts, cuts and new rows. -/
import Derived.Test.YtjpccbjgmogclaaLiftE
import Derived.Laws.StructEq
import Derived.Laws.BytesString
import Derived.Laws.IdiomStrings
import Derived.Lib.ConvBytes
set_option linter.all false
set_option linter.unusedSimpArgs false
namespace Go.Proofs.Ytjpccbjgmogclaa.Lift
open Go Go.RowKit

variable {P : Program} {w : World} {X : Nat → Prop} {μ : Mu} {o : Oper} {a : Act} {σ : List AV} {H : Heap} {base : Nat} {v : AV} {adds : List AObj}

theorem div_rep {op : BinOp} {t : TypeId} {k : IntKind} {x y : Int} (hop : op = .quo ∨ op = .rem) (h : binInt op k x y = some v) : ∃ v', (binOp op t (.int k x) (.int k y)).run P w = .ok v' w ∧ Rep w X μ v v' := by
  by_cases hy : y = 0
  · rcases hop with rfl | rfl <;> simp [binInt, hy] at h
  · rcases hop with rfl | rfl
    · simp [binInt, hy] at h; subst h
      exact ⟨_, by simp [binOp, Op.intDiv, hy], .int _ _⟩
    · simp [binInt, hy] at h; subst h
      exact ⟨_, by simp [binOp, Op.intDiv, hy], .int _ _⟩

theorem binInt_rep {op : BinOp} {t : TypeId} {k : IntKind} {x y : Int} (h1 : op ≠ .shl) (h2 : op ≠ .shr) (h : binInt op k x y = some v) : ∃ v', (binOp op t (.int k x) (.int k y)).run P w = .ok v' w ∧ Rep w X μ v v' := by
  by_cases hop : op = .quo ∨ op = .rem
  · exact div_rep hop h
  cases op <;> simp only [binInt, gradedCmp, Option.map_some, Option.some.injEq] at h
  all_goals first
    | (exact absurd (.inl rfl) hop)
    | (exact absurd (.inr rfl) hop)
    | (exact absurd rfl h1)
    | (exact absurd rfl h2)
    | (subst h; refine ⟨_, by simp only [binOp, ne_eq, not_true_eq_false, if_false, Op.intArith, Op.intBits, Op.intCmp, Sem.run_pure]; rfl, ?_⟩; first | exact .int _ _ | exact .bool _)

theorem guard_int {op : BinOp} {t : TypeId} {X Y : Operand} {k k' : IntKind} {x y : Int} : (eqGuard op t X Y (.int k x) (.int k' y)).run P w = .ok () w := by
  cases op <;> simp [eqGuard]
theorem guard_bool {op : BinOp} {t : TypeId} {X Y : Operand} {x y : Bool} : (eqGuard op t X Y (.bool x) (.bool y)).run P w = .ok () w := by
  cases op <;> simp [eqGuard]
theorem guard_str {op : BinOp} {t : TypeId} {X Y : Operand} {x y : ByteArray} : (eqGuard op t X Y (.string x) (.string y)).run P w = .ok () w := by
  cases op <;> simp [eqGuard]
theorem guard_ptr {op : BinOp} {t : TypeId} {X Y : Operand} {x y : Option Addr} : (eqGuard op t X Y (.pointer x) (.pointer y)).run P w = .ok () w := by
  cases op <;> simp [eqGuard]
theorem guard_ifc {op : BinOp} {t u : TypeId} {X Y : Operand} {x : Value} : (eqGuard op t X Y (.iface u x) .nilIface).run P w = .ok () w := by
  cases op <;> simp [eqGuard]

theorem eqIn_bool {d : Nat} {t : TypeId} (h : P.underlying t = some .bool) (x y : Bool) : (Op.equalIn (d + 1) t (.bool x) (.bool y)).run P w = .ok (x == y) w := by simp [Op.equalIn, run_underlying h]
theorem eqIn_pp {d : Nat} {t e : TypeId} (h : P.underlying t = some (.pointer e)) : (Op.equalIn (d + 1) t (.pointer none) (.pointer none)).run P w = .ok true w := by simp [Op.equalIn, run_underlying h]
theorem eqIn_pn {d : Nat} {t e : TypeId} (h : P.underlying t = some (.pointer e)) (x : Addr) : (Op.equalIn (d + 1) t (.pointer (some x)) (.pointer none)).run P w = .ok false w := by simp [Op.equalIn, run_underlying h]
theorem eqIn_ii {d : Nat} {t : TypeId} {ms : Array (String × TypeId)} (h : P.underlying t = some (.interface ms)) : (Op.equalIn (d + 1) t .nilIface .nilIface).run P w = .ok true w := by simp [Op.equalIn, run_underlying h]
theorem eqIn_in {d : Nat} {t u : TypeId} {ms : Array (String × TypeId)} (h : P.underlying t = some (.interface ms)) (x : Value) : (Op.equalIn (d + 1) t (.iface u x) .nilIface).run P w = .ok false w := by simp [Op.equalIn, run_underlying h]
theorem bin_eql {t : TypeId} {x y : Value} {b : Bool} (hb : binOp .eql t x y = (do pure (.bool (← Op.equalIn (9999 + 1) t x y)))) (h : (Op.equalIn (9999 + 1) t x y).run P w = .ok b w) : (binOp .eql t x y).run P w = .ok (.bool b) w := by
  rw [hb]; simp [h]
theorem bin_neq {t : TypeId} {x y : Value} {b : Bool} (hb : binOp .neq t x y = (do pure (.bool (!(← Op.equalIn (9999 + 1) t x y))))) (h : (Op.equalIn (9999 + 1) t x y).run P w = .ok b w) : (binOp .neq t x y).run P w = .ok (.bool (!b)) w := by
  rw [hb]; simp [h]

def tagOk (P : Program) (t : TypeId) (X Y : Operand) (tag : Nat) : Prop :=
  (tag = 1 → P.underlying t = some .bool) ∧ (tag = 2 → ∃ e, P.underlying t = some (.pointer e)) ∧ (tag = 3 → (∃ m, P.underlying t = some (.interface m)) ∧ ((∃ c, X = .const c) ∨ ∃ c, Y = .const c)) ∧ (tag = 4 → (∃ e, P.underlying t = some (.slice e)) ∧ Y = .const (.slice none 0 0))

theorem eqIn_sn {d : Nat} {t e : TypeId} (h : P.underlying t = some (.slice e)) (A : Option Addr) (n c : Nat) : (Op.equalIn (d + 1) t (.slice A n c) (.slice none 0 0)).run P w = .ok A.isNone w := by cases A <;> simp [Op.equalIn, run_underlying h]
theorem guard_sl {op : BinOp} {t : TypeId} {X Y : Operand} {A B : Option Addr} {n c m d : Nat} : (eqGuard op t X Y (.slice A n c) (.slice B m d)).run P w = .ok () w := by
  cases op <;> simp [eqGuard]

theorem nilq_rep {x : AV} {u : Value} (hx : Rep w X μ x u) {b : Bool} (h : nilq x = some b) : ∃ A n c, u = .slice A n c ∧ A.isNone = b := by
  cases hx with
  | nilS => cases h; exact ⟨_, _, _, rfl, rfl⟩
  | emp => cases h; exact ⟨_, _, _, rfl, rfl⟩
  | roE => simp [nilq] at h
  | ro => simp only [nilq] at h; split at h <;> cases h; exact ⟨_, _, _, rfl, rfl⟩
  | own => simp only [nilq] at h; split at h <;> cases h; exact ⟨_, _, _, rfl, rfl⟩
  | own0 => simp [nilq] at h
  | _ => cases h

theorem d_bin (hσ : RelS w X μ a σ) {op : BinOp} {t ty : TypeId} {x y : Operand} (ho : o.op = .binOp op t x y ty) {tag : Nat} (ht : tagOk P t x y tag) {s1 s2 : SOpd} (hx : copd x = some s1) (hy : copd y = some s2)
    (h : binOpA op tag (ev σ s1) (ev σ s2) = some v) : Does P o a w X μ base v adds := by
  have hr1 := hσ.ev hx
  have hr2 := hσ.ev hy
  have key : ∀ v', (eqGuard op t x y (a.eval x) (a.eval y)).run P w = .ok () w → (binOp op t (a.eval x) (a.eval y)).run P w = .ok v' w → Rep w X μ v v' → Does P o a w X μ base v adds := by
    intro v' h1 h2 h3
    exact does_value (by simp [execOp, ho, h1, h2]) h3
  generalize hxe : a.eval x = u1 at *
  generalize hye : a.eval y = u2 at *
  generalize ev σ s1 = e1 at *
  generalize ev σ s2 = e2 at *
  unfold binOpA at h
  split at h
  · -- shl
    split at h
    · cases h
    · rename_i hb
      cases h; cases hr1; cases hr2
      refine key _ guard_int ?_ (.int _ _)
      simp only [binOp, Op.shift, hb, if_false, Sem.run_pure]
  · split at h
    · cases h
    · rename_i hb
      cases h; cases hr1; cases hr2
      refine key _ guard_int ?_ (.int _ _)
      simp only [binOp, Op.shift, hb, if_false, Sem.run_pure]
  · rename_i n1 n2 h1 h2
    split at h
    · rename_i hk
      subst hk
      cases hr1; cases hr2
      obtain ⟨v', hv', hrep⟩ := binInt_rep (P := P) (w := w) (X := X) (μ := μ) (t := t) (by intro e; subst e; simp at h1) (by intro e; subst e; simp at h2) h
      exact key v' guard_int hv' hrep
    · cases h
  · split at h
    · rename_i htag
      cases h; cases hr1; cases hr2
      exact key _ guard_bool (bin_eql rfl (eqIn_bool (ht.1 htag) _ _)) (.bool _)
    · cases h
  · split at h
    · rename_i htag
      cases h; cases hr1; cases hr2
      exact key _ guard_bool (bin_neq rfl (eqIn_bool (ht.1 htag) _ _)) (.bool _)
    · cases h
  · cases h; cases hr1; cases hr2
    exact key _ guard_str (by simp [binOp, Op.stringOp]) (.bool _)
  · cases h; cases hr1; cases hr2
    exact key _ guard_str (by simp [binOp, Op.stringOp, bne]) (.bool _)
  · split at h
    · rename_i hs
      cases h; cases hr1; cases hr2
      refine key _ guard_str ?_ (.str _)
      rename_i p q
      have hmax : ¬ (IntKind.i64.max < ((p.size + q.size : Nat) : Int)) := by
        have : IntKind.i64.max = 9223372036854775807 := by decide
        omega
      simp only [binOp, Op.stringOp]
      rw [if_neg (by simpa using hmax)]
      rfl
    · cases h
  · split at h
    · rename_i htag
      obtain ⟨e, he⟩ := ht.2.1 htag
      cases h; cases hr1; cases hr2
      exact key _ guard_ptr (bin_eql rfl (eqIn_pp he)) (.bool _)
    · cases h
  · split at h
    · rename_i htag
      obtain ⟨e, he⟩ := ht.2.1 htag
      cases h; cases hr1; cases hr2
      exact key _ guard_ptr (bin_neq rfl (eqIn_pp he)) (.bool _)
    · cases h
  · split at h
    · rename_i htag
      obtain ⟨e, he⟩ := ht.2.1 htag
      cases h; cases hr1; cases hr2
      exact key _ guard_ptr (bin_eql rfl (eqIn_pn he _)) (.bool _)
    · cases h
  · split at h
    · rename_i htag
      obtain ⟨e, he⟩ := ht.2.1 htag
      cases h; cases hr1; cases hr2
      exact key _ guard_ptr (bin_neq rfl (eqIn_pn he _)) (.bool _)
    · cases h
  · split at h
    · rename_i htag
      obtain ⟨⟨e, he⟩, hc⟩ := ht.2.2.1 htag
      cases h; cases hr1; cases hr2
      refine key _ ?_ (bin_eql rfl (eqIn_ii he)) (.bool _)
      rcases hc with ⟨c, rfl⟩ | ⟨c, rfl⟩ <;> simp [eqGuard]
    · cases h
  · split at h
    · rename_i htag
      obtain ⟨⟨e, he⟩, hc⟩ := ht.2.2.1 htag
      cases h; cases hr1; cases hr2
      refine key _ ?_ (bin_neq rfl (eqIn_ii he)) (.bool _)
      rcases hc with ⟨c, rfl⟩ | ⟨c, rfl⟩ <;> simp [eqGuard]
    · cases h
  · split at h
    · rename_i htag
      obtain ⟨⟨e, he⟩, hc⟩ := ht.2.2.1 htag
      cases h; cases hr1; cases hr2
      exact key _ guard_ifc (bin_eql rfl (eqIn_in he _)) (.bool _)
    · cases h
  · split at h
    · rename_i htag
      obtain ⟨⟨e, he⟩, hc⟩ := ht.2.2.1 htag
      cases h; cases hr1; cases hr2
      exact key _ guard_ifc (bin_neq rfl (eqIn_in he _)) (.bool _)
    · cases h
  · split at h
    · rename_i htag
      obtain ⟨⟨e, he⟩, hY⟩ := ht.2.2.2 htag
      obtain ⟨b, hb, rfl⟩ := Option.map_eq_some_iff.1 h
      obtain ⟨A, n, c, rfl, rfl⟩ := nilq_rep hr1 hb
      subst hY
      have hye' : Value.slice none 0 0 = u2 := hye
      subst hye'
      exact key _ guard_sl (bin_eql rfl (eqIn_sn he _ _ _)) (.bool _)
    · cases h
  · split at h
    · rename_i htag
      obtain ⟨⟨e, he⟩, hY⟩ := ht.2.2.2 htag
      obtain ⟨b, hb, rfl⟩ := Option.map_eq_some_iff.1 h
      obtain ⟨A, n, c, rfl, rfl⟩ := nilq_rep hr1 hb
      subst hY
      have hye' : Value.slice none 0 0 = u2 := hye
      subst hye'
      exact key _ guard_sl (bin_neq rfl (eqIn_sn he _ _ _)) (.bool _)
    · cases h
  · cases h

theorem eqCs_len {ks : List Nat} {cs ds : List AV} {b : Bool} (h : eqCs ks cs ds = some b) : cs.length = ks.length ∧ ds.length = ks.length := by
  fun_induction eqCs ks cs ds generalizing b
  all_goals first
    | exact ⟨rfl, rfl⟩
    | (cases h; done)
    | (rename_i ih; obtain ⟨q, hq, _⟩ := Option.map_eq_some_iff.1 h; have := ih hq; simp [this.1, this.2])

theorem eqCs_nil {cs ds : List AV} {q : Bool} (h : eqCs [] cs ds = some q) : q = true := by
  cases cs <;> cases ds <;> simp_all [eqCs]

theorem kindsT_size {n : Nat} {t : TypeId} {ks : List Nat} {fs : Array Field} (hkt : kindsT P (n + 1) t = some ks) (hu : P.underlying t = some (.struct fs)) : tsz P t = some ks.length := by
  simp only [kindsT, hu] at hkt
  split at hkt
  · split at hkt
    · split at hkt
      · rename_i hsz; cases hkt; exact hsz
      · cases hkt
    · cases hkt
  · cases hkt

theorem eqCs_append : ∀ (ks : List Nat) {ks' : List Nat} {a b a' b' : List AV} {r : Bool}, a.length = ks.length → b.length = ks.length → eqCs (ks ++ ks') (a ++ a') (b ++ b') = some r → ∃ r1 r2, eqCs ks a b = some r1 ∧ eqCs ks' a' b' = some r2 ∧ r = (r1 && r2)
  | [], ks', a, b, a', b', r, ha, hb, h => by
    obtain rfl := List.length_eq_zero_iff.1 ha
    obtain rfl := List.length_eq_zero_iff.1 hb
    exact ⟨true, r, rfl, h, by simp⟩
  | k :: ks, ks', a, b, a', b', r, ha, hb, h => by
    match a, b, ha, hb with
    | x :: a, y :: b, ha, hb =>
      have ih := fun {r} h => eqCs_append ks (ks' := ks') (a := a) (b := b) (a' := a') (b' := b') (r := r) (by simpa using ha) (by simpa using hb) h
      simp only [List.cons_append] at h
      unfold eqCs at h
      split at h
      · rename_i h1 h2 h3; cases h1
      · rename_i h1 h2 h3
        cases h1; cases h2; cases h3
        split at h
        · rename_i hk
          obtain ⟨q, hq, rfl⟩ := Option.map_eq_some_iff.1 h
          obtain ⟨r1, r2, e1, e2, rfl⟩ := ih hq
          exact ⟨_, r2, by simp only [eqCs, if_pos hk, e1]; rfl, e2, by rw [Bool.and_assoc]⟩
        · cases h
      · rename_i h1 h2 h3
        cases h1; cases h2; cases h3
        obtain ⟨q, hq, rfl⟩ := Option.map_eq_some_iff.1 h
        obtain ⟨r1, r2, e1, e2, rfl⟩ := ih hq
        exact ⟨_, r2, by simp only [eqCs, e1]; rfl, e2, by rw [Bool.and_assoc]⟩
      · rename_i h1 h2 h3
        cases h1; cases h2; cases h3
        obtain ⟨q, hq, rfl⟩ := Option.map_eq_some_iff.1 h
        obtain ⟨r1, r2, e1, e2, rfl⟩ := ih hq
        exact ⟨_, r2, by simp only [eqCs, e1]; rfl, e2, by rw [Bool.and_assoc]⟩
      · cases h

/-- Cells, and what they stand for. -/
structure CellsR (w : World) (X : Nat → Prop) (μ : Mu) (cs : List AV) (xs : Array Value) : Prop where
  l : cs.length = xs.size
  r : ∀ (j : Nat) (c : AV) (v : Value), cs[j]? = some c → xs[j]? = some v → Rep w X μ c v

theorem CellsR.at {cs : List AV} {xs : Array Value} (h : CellsR w X μ cs xs) {j : Nat} {c : AV} (hc : cs[j]? = some c) : ∃ v, xs[j]? = some v ∧ Rep w X μ c v := by
  have hj : j < xs.size := by rw [← h.l]; exact (List.getElem?_eq_some_iff.1 hc).1
  exact ⟨_, Array.getElem?_eq_getElem hj, h.r j c _ hc (Array.getElem?_eq_getElem hj)⟩

theorem CellsR.cut {cs : List AV} {xs : Array Value} (h : CellsR w X μ cs xs) {off n : Nat} (hl : off + n ≤ cs.length) : CellsR w X μ ((cs.drop off).take n) (xs.extract off (off + n)) := by
  have := h.l
  refine ⟨by simp; omega, fun j c v hc hv => ?_⟩
  rw [List.getElem?_take] at hc
  split at hc
  · rename_i hj
    rw [List.getElem?_drop] at hc
    rw [Array.getElem?_extract, if_pos (by omega)] at hv
    exact h.r _ c v hc hv
  · cases hc

theorem take_one_drop {cs : List AV} {off : Nat} {c : AV} {r : List AV} (h : (cs.drop off).take 1 = c :: r) : cs[off]? = some c := by
  have : ((cs.drop off).take 1)[0]? = some c := by rw [h]; rfl
  rw [List.getElem?_take, if_pos (by omega), List.getElem?_drop] at this
  simpa using this

theorem part_one {t : TypeId} (ht : tagg P t = some false) {xs : Array Value} {off : Nat} {v : Value} (h : xs[off]? = some v) : (part t xs off).run P w = .ok v w := by
  unfold part
  rw [Sem.run_bind, run_tagg ht]
  simp [h]

theorem eqT : ∀ (n : Nat) (t : TypeId) (ks : List Nat), kindsT P n t = some ks → ∀ (d : Nat), n ≤ d → ∀ {cs ds : List AV} {xs ys : Array Value} {off : Nat}, CellsR w X μ cs xs → CellsR w X μ ds ys → off + ks.length ≤ cs.length → off + ks.length ≤ ds.length →
    ∀ b, eqCs ks ((cs.drop off).take ks.length) ((ds.drop off).take ks.length) = some b → ∃ v v', (part t xs off).run P w = .ok v w ∧ (part t ys off).run P w = .ok v' w ∧ (Op.equalIn (d + 1) t v v').run P w = .ok b w
  | 0, t, ks, hk, d, hd, cs, ds, xs, ys, off, hx, hy, l1, l2, b, hb => by cases hk
  | n + 1, t, ks, hk, d, hd, cs, ds, xs, ys, off, hx, hy, l1, l2, b, hb => by
    simp only [kindsT] at hk
    split at hk
    · rename_i k hu
      cases hk
      have ha : tagg P t = some false := by simp [tagg, hu]
      simp only [List.length_singleton] at hb
      unfold eqCs at hb
      split at hb
      · rename_i h1 h2 h3; exact absurd h1 (by simp)
      · rename_i h1 h2 h3
        cases h1
        split at hb
        · rename_i hkk
          subst hkk
          obtain ⟨v, hv, hr⟩ := hx.at (take_one_drop h2)
          obtain ⟨v', hv', hr'⟩ := hy.at (take_one_drop h3)
          cases hr; cases hr'
          obtain ⟨q, hq, rfl⟩ := Option.map_eq_some_iff.1 hb
          obtain rfl := eqCs_nil hq
          refine ⟨_, _, part_one ha hv, part_one ha hv', ?_⟩
          rw [run_equalIn_int w d t _ _ _ _ hu]; simp
        · cases hb
      · rename_i h1 h2 h3; exact absurd h1 (by simp)
      · rename_i h1 h2 h3; exact absurd h1 (by simp)
      · cases hb
    · rename_i hu
      cases hk
      have ha : tagg P t = some false := by simp [tagg, hu]
      simp only [List.length_singleton] at hb
      unfold eqCs at hb
      split at hb
      · rename_i h1 h2 h3; exact absurd h1 (by simp)
      · rename_i h1 h2 h3; exact absurd h1 (by simp)
      · rename_i h1 h2 h3
        cases h1
        obtain ⟨v, hv, hr⟩ := hx.at (take_one_drop h2)
        obtain ⟨v', hv', hr'⟩ := hy.at (take_one_drop h3)
        cases hr; cases hr'
        obtain ⟨q, hq, rfl⟩ := Option.map_eq_some_iff.1 hb
        obtain rfl := eqCs_nil hq
        refine ⟨_, _, part_one ha hv, part_one ha hv', ?_⟩
        rw [run_equalIn_bool' w d t _ _ hu]; simp
      · rename_i h1 h2 h3; exact absurd h1 (by simp)
      · cases hb
    · rename_i hu
      cases hk
      have ha : tagg P t = some false := by simp [tagg, hu]
      simp only [List.length_singleton] at hb
      unfold eqCs at hb
      split at hb
      · rename_i h1 h2 h3; exact absurd h1 (by simp)
      · rename_i h1 h2 h3; exact absurd h1 (by simp)
      · rename_i h1 h2 h3; exact absurd h1 (by simp)
      · rename_i h1 h2 h3
        cases h1
        obtain ⟨v, hv, hr⟩ := hx.at (take_one_drop h2)
        obtain ⟨v', hv', hr'⟩ := hy.at (take_one_drop h3)
        cases hr; cases hr'
        obtain ⟨q, hq, rfl⟩ := Option.map_eq_some_iff.1 hb
        obtain rfl := eqCs_nil hq
        refine ⟨_, _, part_one ha hv, part_one ha hv', ?_⟩
        rw [run_equalIn_string w d t _ _ hu]; simp
      · cases hb
    · rename_i fs hu
      split at hk
      · rename_i hst
        split at hk
        · rename_i ks' hfs
          split at hk
          · rename_i hsz
            cases hk
            have ha : tagg P t = some true := by simp [tagg, hu]
            have hpart : ∀ zs : Array Value, (part t zs off).run P w = .ok (.agg (zs.extract off (off + ks.length))) w := by
              intro zs
              unfold part
              rw [Sem.run_bind, run_tagg ha]
              simp [run_tsz hsz]
            refine ⟨_, _, hpart xs, hpart ys, ?_⟩
            have hf : P.fieldsOf t = fs := by simp [Program.fieldsOf, hu]
            rw [run_equalIn_struct w d t _ _ (by rw [hf]; exact hu) hst, hf]
            have hx' := hx.cut l1
            have hy' := hy.cut l2
            generalize hcs : (cs.drop off).take ks.length = cs' at hb hx'
            generalize hds : (ds.drop off).take ks.length = ds' at hb hy'
            generalize xs.extract off (off + ks.length) = xs' at hx' ⊢
            generalize ys.extract off (off + ks.length) = ys' at hy' ⊢
            have lc : cs'.length = ks.length := by rw [← hcs]; simp; omega
            have ld : ds'.length = ks.length := by rw [← hds]; simp; omega
            obtain ⟨d', rfl⟩ : ∃ d', d = d' + 1 := ⟨d - 1, by omega⟩
            have key : ∀ (fl : List Field) (o : Nat) (ks2 : List Nat) (b : Bool), fieldsK (kindsT P n) o fl = some ks2 → o + ks2.length ≤ cs'.length → o + ks2.length ≤ ds'.length → eqCs ks2 ((cs'.drop o).take ks2.length) ((ds'.drop o).take ks2.length) = some b →
                (Op.eqFields (d' + 1) xs' ys' fl).run P w = .ok b w := by
              intro fl
              induction fl with
              | nil =>
                intro o ks2 b h1 _ _ h2
                cases h1
                simp only [List.length_nil, List.take_zero, eqCs, Option.some.injEq] at h2
                subst h2
                rfl
              | cons f fl ih =>
                intro o ks2 b h1 m1 m2 h2
                simp only [fieldsK] at h1
                split at h1
                · rename_i hfn
                  split at h1
                  · rename_i k1 hk1
                    obtain ⟨k2, hk2, rfl⟩ := Option.map_eq_some_iff.1 h1
                    simp only [List.length_append] at m1 m2 h2
                    rw [List.take_add, List.take_add, List.drop_drop, List.drop_drop] at h2
                    obtain ⟨r1, r2, e1, e2, rfl⟩ := eqCs_append k1 (by simp; omega) (by simp; omega) h2
                    obtain ⟨v, v', p1, p2, p3⟩ := eqT n f.type k1 hk1 d' (by omega) hx' hy' (off := o) (by omega) (by omega) r1 e1
                    have := ih (o + k1.length) k2 r2 hk2 (by omega) (by omega) e2
                    simp only [Op.eqFields]
                    rw [if_pos hfn.1, hfn.2]
                    simp only [Sem.run_bind, p1, p2, p3, Result.andThen_ok]
                    cases r1 with
                    | false => simp
                    | true => simp [this]
                  · cases h1
                · cases h1
            refine key fs.toList 0 ks b hfs (by omega) (by omega) ?_
            rw [List.drop_zero, List.drop_zero, List.take_of_length_le (by omega), List.take_of_length_le (by omega)]
            exact hb
          · cases hk
        · cases hk
      · cases hk
    · cases hk

theorem d_eqS (hσ : RelS w X μ a σ) {op : BinOp} {t ty : TypeId} {x y : Operand} (ho : o.op = .binOp op t x y ty) {ne : Bool} {ks : List Nat} (hseq : seqK P op t = some (ne, ks)) {s1 s2 : SOpd} (hx : copd x = some s1) (hy : copd y = some s2) {cs ds : List AV} (h1 : ev σ s1 = .agg cs) (h2 : ev σ s2 = .agg ds) {b : Bool} (hb : eqCs ks cs ds = some b) :
    Does P o a w X μ base (.bool (if ne = true then !b else b)) adds := by
  have hr1 := hσ.ev hx
  have hr2 := hσ.ev hy
  rw [h1] at hr1
  rw [h2] at hr2
  generalize hxe : a.eval x = u1 at *
  generalize hye : a.eval y = u2 at *
  cases hr1 with
  | @agg _ _ xs hl1 r1 =>
    cases hr2 with
    | @agg _ _ ys hl2 r2 =>
      obtain ⟨lc, ld⟩ := eqCs_len hb
      have spec : (op = .eql ∧ ne = false ∨ op = .neq ∧ ne = true) ∧ P.eqGuardType P.depth t = false ∧ kindsT P 20 t = some ks ∧ ∃ fs, P.underlying t = some (.struct fs) := by
        unfold seqK at hseq
        split at hseq
        · rename_i fs hu
          split at hseq
          · rename_i hg
            split at hseq
            · obtain ⟨q, hq, e⟩ := Option.map_eq_some_iff.1 hseq
              cases e
              exact ⟨.inl ⟨rfl, rfl⟩, hg, hq, fs, hu⟩
            · obtain ⟨q, hq, e⟩ := Option.map_eq_some_iff.1 hseq
              cases e
              exact ⟨.inr ⟨rfl, rfl⟩, hg, hq, fs, hu⟩
            · cases hseq
          · cases hseq
        · cases hseq
      obtain ⟨hop, hg, hkt, fs, hu⟩ := spec
      have ha : tagg P t = some true := by simp [tagg, hu]
      have hsz : tsz P t = some ks.length := kindsT_size (n := 19) hkt hu
      obtain ⟨v, v', p1, p2, p3⟩ := eqT (P := P) (w := w) (X := X) (μ := μ) 20 t ks hkt 9999 (by omega) (cs := cs) (ds := ds) (xs := xs) (ys := ys) (off := 0) ⟨hl1, r1⟩ ⟨hl2, r2⟩ (by omega) (by omega) b (by
        rw [List.drop_zero, List.drop_zero, List.take_of_length_le (by omega), List.take_of_length_le (by omega)]
        exact hb)
      have hpart : ∀ zs : Array Value, zs.size = ks.length → (part t zs 0).run P w = .ok (.agg zs) w := by
        intro zs hz
        unfold part
        rw [Sem.run_bind, run_tagg ha]
        simp [run_tsz hsz]
        right; omega
      rw [hpart xs (by rw [← hl1]; exact lc)] at p1
      rw [hpart ys (by rw [← hl2]; exact ld)] at p2
      cases p1; cases p2
      have hgd := run_eqGuard_agg (P := P) w op t x y xs ys hg
      rcases hop with ⟨rfl, rfl⟩ | ⟨rfl, rfl⟩
      · refine does_value (v' := .bool b) ?_ (.bool _)
        simp only [execOp, ho, hxe, hye, Sem.run_bind, hgd, Result.andThen_ok, run_eql_struct, p3, Sem.run_pure]
      · refine does_value (v' := .bool (!b)) ?_ (.bool _)
        simp only [execOp, ho, hxe, hye, Sem.run_bind, hgd, Result.andThen_ok, run_neq_struct, p3, Sem.run_pure]

theorem d_neg (hσ : RelS w X μ a σ) {t : TypeId} {x : Operand} (ho : o.op = .unOp .neg t x) {s : SOpd} (hx : copd x = some s) {k : IntKind} {n : Int} (he : ev σ s = .int k n) : Does P o a w X μ base (.int k (k.wrap (0 - n))) adds := by
  have h := rep_int (hσ.ev hx) he
  exact does_value (v' := .int k (k.wrap (0 - n))) (by simp [execOp, ho, h, Op.unary, Op.intArith]) (.int _ _)
theorem d_not (hσ : RelS w X μ a σ) {t : TypeId} {x : Operand} (ho : o.op = .unOp .not t x) {s : SOpd} (hx : copd x = some s) {b : Bool} (he : ev σ s = .bool b) : Does P o a w X μ base (.bool (!b)) adds := by
  have h := rep_bool (hσ.ev hx) he
  exact does_value (v' := .bool (!b)) (by simp [execOp, ho, h, Op.unary]) (.bool _)
theorem d_xor (hσ : RelS w X μ a σ) {t : TypeId} {x : Operand} (ho : o.op = .unOp .xor t x) {s : SOpd} (hx : copd x = some s) {k : IntKind} {n : Int} (he : ev σ s = .int k n) :
    Does P o a w X μ base (.int k (k.wrap (BitVec.ofInt k.bits (if k.signed then -1 else k.max) ^^^ BitVec.ofInt k.bits n).toNat)) adds := by
  have h := rep_int (hσ.ev hx) he
  exact does_value (v' := .int k (k.wrap (BitVec.ofInt k.bits (if k.signed then -1 else k.max) ^^^ BitVec.ofInt k.bits n).toNat)) (by simp [execOp, ho, h, Op.unary, Op.intBits]) (.int _ _)

theorem d_convInt (hσ : RelS w X μ a σ) {src dst : TypeId} {x : Operand} (ho : o.op = .convert src dst x) {s : SOpd} (hx : copd x = some s) {d : TypeDesc} (h1 : P.underlying src = some d) {k : IntKind} (h2 : P.underlying dst = some (.int k)) {k' : IntKind} {n : Int} (he : ev σ s = .int k' n) :
    Does P o a w X μ base (.int k (k.wrap n)) adds := by
  have h := rep_int (hσ.ev hx) he
  exact does_value (v' := .int k (k.wrap n)) (by simp [execOp, ho, h, convert, run_underlying h1, run_underlying h2, Conv.intToInt]) (.int _ _)
theorem d_convStr (hσ : RelS w X μ a σ) {src dst : TypeId} {x : Operand} (ho : o.op = .convert src dst x) {s : SOpd} (hx : copd x = some s) (h1 : P.underlying src = some .string) (h2 : P.underlying dst = some .string) {q : ByteArray} (he : ev σ s = .str q) :
    Does P o a w X μ base (.str q) adds := by
  have h := rep_str (hσ.ev hx) he
  exact does_value (v' := .string q) (by simp [execOp, ho, h, convert, run_underlying h1, run_underlying h2]) (.str _)

theorem d_min (hσ : RelS w X μ a σ) {c : Call} (ho : o.op = .call c) {mx : Bool} (hc : c.callee = .builtin (if mx then .max else .min)) {ss : List SOpd} (hs : c.args.toList.mapM copd = some ss) {k : IntKind} {x y : Int} (he : evs σ ss = [.int k x, .int k y]) :
    Does P o a w X μ base (.int k (if mx then (if x < y then y else x) else (if y < x then y else x))) adds := by
  obtain ⟨l1, r1⟩ := hσ.evs hs
  unfold evs at he
  have hl : c.args.toList.length = 2 := by rw [← l1]; have := congrArg List.length he; simpa using this
  obtain ⟨p, hp, hr0⟩ := r1 0 (.int k x) (by rw [he]; rfl)
  obtain ⟨q, hq, hr1⟩ := r1 1 (.int k y) (by rw [he]; rfl)
  have ha : c.args = #[p, q] := by
    rw [← Array.toList_inj]
    match hcl : c.args.toList, hl with
    | [u, v], _ => rw [hcl] at hp hq; simp at hp hq; simp [hp, hq]
  have e0 := rep_int hr0 rfl
  have e1 := rep_int hr1 rfl
  refine does_value (v' := .int k (if mx then (if x < y then y else x) else (if y < x then y else x))) ?_ (.int _ _)
  cases mx
  · simp only [Bool.false_eq_true, if_false] at hc ⊢
    by_cases h : y < x <;> simp [execOp, ho, resolve, hc, ha, invoke, builtin, Builtin.min_, Builtin.min2, e0, e1, h]
  · simp only [if_true] at hc ⊢
    by_cases h : x < y <;> simp [execOp, ho, resolve, hc, ha, invoke, builtin, Builtin.max_, Builtin.max2, e0, e1, h]

end Go.Proofs.Ytjpccbjgmogclaa.Lift
