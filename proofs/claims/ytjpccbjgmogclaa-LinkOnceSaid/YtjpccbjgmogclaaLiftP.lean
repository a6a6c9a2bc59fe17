/- A reading of the program's code by values alone: what a call comes to, without a bound on its rounds. -/
import Derived.Test.YtjpccbjgmogclaaLiftO
set_option linter.all false
set_option linter.unusedSimpArgs false
namespace Go.Proofs.Ytjpccbjgmogclaa.Lift
open Go Go.RowKit

def LeF (C C' : FT) : Prop := ∀ g as Hs r, C g as Hs = some r → C' g as Hs = some r
def LeL (L L' : LT) : Prop := ∀ lv c st r, L lv c st = some r → L' lv c st = some r

theorem calm_mono {C C' : FT} (h : LeF C C') {σ : List AV} {H : Heap} {base : Nat} {s : SOp} {r : AV × List AObj} (hc : calm C σ H base s = some r) : calm C' σ H base s = some r := by
  cases s <;> first | exact hc | skip
  case call f mode args =>
    simp only [calm] at hc ⊢
    split at hc
    · rename_i g as bs he
      split at hc
      · rename_i as' L hargs
        split at hc
        · rename_i v Hs hcall
          simp only [h _ _ _ _ hcall]
          exact hc
        · cases hc
      · cases hc
    · cases hc
  case callF f mode args =>
    simp only [calm] at hc ⊢
    split at hc
    · rename_i g as bs he
      split at hc
      · rename_i as' L hargs
        split at hc
        · rename_i hL
          simp only [if_pos hL]
          split at hc
          · rename_i v hfv
            obtain ⟨⟨r, Hs⟩, hcall, rfl⟩ := Option.map_eq_some_iff.1 hfv
            simp only [FV, h _ _ _ _ hcall, Option.map_some]
            exact hc
          · cases hc
        · rename_i hL
          simp only [if_neg hL]
          split at hc
          · rename_i v Hs hcall
            simp only [h _ _ _ _ hcall]
            exact hc
          · cases hc
      · cases hc
    · cases hc

/-- What turns something is no quiet operation. -/
theorem calm_of_loud {C : FT} {st st' : ASt} {base : Nat} {s : SOp} {v : AV} (hl : loud C st base s = some (v, st')) : calm C st.σ st.H base s = none := by
  cases s <;> simp only [loud] at hl <;> try (cases hl; done)
  case store n a x => rfl
  case call f mode args =>
    simp only [calm]
    split at hl
    · rename_i g as bs he
      split at hl
      · rename_i as' G os L hargs
        split at hl
        · rename_i r Hs hcall
          split at hl
          · cases hl
          · rename_i hn
            rw [hargs]
            cases G with
            | cons g0 G0 => rfl
            | nil =>
              have hos : os = [] := by
                obtain ⟨os0, h1, h2⟩ := (callArgs_spec hargs).os
                simp only [List.mapM_nil, Option.pure_def, Option.some.injEq] at h1
                subst h1; exact h2
              subst hos
              simp only [hcall]
              simp only [List.isEmpty_nil, Bool.true_and, Bool.not_eq_true', Bool.not_eq_false] at hn
              rw [if_pos hn]
        · cases hl
      · cases hl
    · cases hl
  case callF f mode args =>
    obtain ⟨g, as, bs, as', L, r, Hs, he, hargs, hL, hcall, hro, _⟩ := loud_callF_inv (v := v) (st' := st') (C := C) (st := st) (base := base) (cf := f) (mode := mode) (ss := args) (by simp only [loud]; exact hl)
    simp only [calm, he, hargs, hcall]
    rw [if_neg (by rw [hL]; simp), if_pos hro]
  case append t sz bytes x y =>
    split at hl
    · rename_i id n e
      simp only [calm, e]
    · rename_i id lo n hlo e
      simp only [calm, e]
    · rename_i id e
      simp only [calm, e]
    · cases hl
  case clear sz zero x => rfl
  case appendS t bytes x y =>
    split at hl
    · rename_i id n e
      simp only [calm, e]
    · cases hl

theorem loud_mono {C C' : FT} (h : LeF C C') {st : ASt} {base : Nat} {s : SOp} {r : AV × ASt} (hc : loud C st base s = some r) : loud C' st base s = some r := by
  cases s <;> first | exact hc | skip
  case callF f mode args =>
    simp only [loud] at hc ⊢
    split at hc
    · rename_i g as bs he
      split at hc
      · rename_i as' L hargs
        split at hc
        · cases hc
        · rename_i hL
          simp only [if_neg hL]
          split at hc
          · rename_i v Hs hcall
            simp only [h _ _ _ _ hcall]
            exact hc
          · cases hc
      · cases hc
    · cases hc
  case call f mode args =>
    simp only [loud] at hc ⊢
    split at hc
    · rename_i g as bs he
      split at hc
      · rename_i as' G os L hargs
        split at hc
        · rename_i v Hs hcall
          simp only [h _ _ _ _ hcall]
          exact hc
        · cases hc
      · cases hc
    · cases hc

theorem aops_mono {C C' : FT} (h : LeF C C') {draw : Bool} : ∀ {sos : List SOper} {i : Nat} {st stE : ASt}, aops C draw sos i st = some stE → aops C' draw sos i st = some stE
  | [], i, st, stE, hc => hc
  | so :: rest, i, st, stE, hc => by
    simp only [aops] at hc ⊢
    split at hc
    · cases hc
    · exact aops_mono h hc
    · split at hc
      · rename_i v adds hca
        rw [calm_mono h hca]
        simp only []
        split at hc
        · rename_i hl
          rw [if_pos hl]
          exact aops_mono h hc
        · cases hc
      · rename_i hca
        split at hc
        · cases hc
        · rename_i hb
          split at hc
          · rename_i v st' hl
            rw [calm_of_loud (loud_mono h hl)]
            simp only []
            rw [if_neg hb, loud_mono h hl]
            simp only []
            split at hc
            · rename_i hlt
              rw [if_pos hlt]
              exact aops_mono h hc
            · cases hc
          · cases hc

theorem acode_mono {C C' : FT} {L L' : LT} (h : LeF C C') (hL : LeL L L') : ∀ {s : SCode} {st : ASt} {r : AEx × ASt}, acode C L s st = some r → acode C' L' s st = some r := by
  intro s
  induction s with
  | skip => intro st r hc; exact hc
  | region ops draw =>
    intro st r hc
    simp only [acode] at hc ⊢
    split at hc
    · rename_i st' h1
      rw [aops_mono h h1]; exact hc
    · cases hc
  | seq a b iha ihb =>
    intro st r hc
    simp only [acode] at hc ⊢
    split at hc
    · rename_i st' h1
      rw [iha h1]; exact ihb hc
    · rename_i r' hne
      rw [iha hc]
      split
      · rename_i st' e
        cases e
        exact absurd hc (by intro e; exact hne _ e)
      · rfl
  | cond c a b iha ihb =>
    intro st r hc
    simp only [acode] at hc ⊢
    split at hc
    · rename_i t ht
      split at hc
      · rename_i h1; rw [if_pos h1]; exact iha hc
      · rename_i h1; rw [if_neg h1]; exact ihb hc
    · cases hc
  | block id a ih =>
    intro st r hc
    simp only [acode] at hc ⊢
    split at hc
    · rename_i j st' h1
      rw [ih h1]; exact hc
    · rename_i r' hne
      rw [ih hc]
      split
      · rename_i j st' e
        cases e
        exact absurd hc (by intro e; exact hne _ _ e)
      · rfl
  | loop lv a ih => intro st r hc; exact hL _ _ _ _ hc
  | exit id => intro st r hc; exact hc
  | ret => intro st r hc; exact hc

theorem run_mono1 (T : Nat → Option SFun) : ∀ n, LeF (runBoth T n).1 (runBoth T (n + 1)).1 ∧ LeL (runBoth T n).2 (runBoth T (n + 1)).2
  | 0 => ⟨fun g as Hs r h => by simp [runBoth] at h, fun lv c st r h => by simp [runBoth] at h⟩
  | n + 1 => by
    obtain ⟨h1, h2⟩ := run_mono1 T n
    refine ⟨fun g as Hs r h => ?_, fun lv c st r h => ?_⟩
    · have h' : (match T g with
          | some fn => runFn (runBoth T n).1 (runBoth T n).2 fn as Hs
          | none => none) = some r := h
      show (match T g with
          | some fn => runFn (runBoth T (n + 1)).1 (runBoth T (n + 1)).2 fn as Hs
          | none => none) = some r
      cases hT : T g with
      | none => rw [hT] at h'; cases h'
      | some fn =>
        rw [hT] at h'
        simp only [runFn] at h' ⊢
        split
        · rename_i f hp
          rw [hp] at h'
          exact h'
        rename_i hp
        rw [hp] at h'
        simp only [] at h'
        cases ha : acode (runBoth T n).1 (runBoth T n).2 fn.body (start fn as Hs) with
        | none => rw [ha] at h'; cases h'
        | some q => rw [ha] at h'; rw [acode_mono h1 h2 ha]; exact h'
    · have h' : (match acode (runBoth T n).1 (runBoth T n).2 c (canon lv st) with
          | some (.normal, st') => (runBoth T n).2 lv c st'
          | r => r) = some r := h
      show (match acode (runBoth T (n + 1)).1 (runBoth T (n + 1)).2 c (canon lv st) with
          | some (.normal, st') => (runBoth T (n + 1)).2 lv c st'
          | r => r) = some r
      cases ha : acode (runBoth T n).1 (runBoth T n).2 c (canon lv st) with
      | none => rw [ha] at h'; cases h'
      | some q =>
        rw [ha] at h'
        rw [acode_mono h1 h2 ha]
        obtain ⟨e, st'⟩ := q
        cases e with
        | normal => exact h2 _ _ _ _ h'
        | exit id => exact h'
        | ret => exact h'

theorem run_mono (T : Nat → Option SFun) {n m : Nat} (h : n ≤ m) : LeF (runBoth T n).1 (runBoth T m).1 ∧ LeL (runBoth T n).2 (runBoth T m).2 := by
  induction h with
  | refl => exact ⟨fun _ _ _ _ h => h, fun _ _ _ _ h => h⟩
  | @step m _ ih =>
    have := run_mono1 T m
    exact ⟨fun g as Hs r h => this.1 _ _ _ _ (ih.1 _ _ _ _ h), fun lv c st r h => this.2 _ _ _ _ (ih.2 _ _ _ _ h)⟩

/-- What some number of rounds yields. -/
noncomputable def lim {α : Type} (f : Nat → Option α) : Option α := open Classical in if h : ∃ r, ∃ n, f n = some r then some h.choose else none

theorem lim_iff {α : Type} {f : Nat → Option α} (hm : ∀ n m r, n ≤ m → f n = some r → f m = some r) {r : α} : lim f = some r ↔ ∃ n, f n = some r := by
  unfold lim
  constructor
  · intro h
    split at h
    · rename_i hex
      cases h
      exact hex.choose_spec
    · cases h
  · rintro ⟨n, hn⟩
    have hex : ∃ r, ∃ n, f n = some r := ⟨r, n, hn⟩
    rw [dif_pos hex]
    obtain ⟨m, hm'⟩ := hex.choose_spec
    have h1 := hm n (max n m) r (Nat.le_max_left _ _) hn
    have h2 := hm m (max n m) _ (Nat.le_max_right _ _) hm'
    rw [h1] at h2
    exact h2.symm

/-- What a call comes to. -/
noncomputable def F (T : Nat → Option SFun) : FT := fun g as Hs => lim fun n => (runBoth T n).1 g as Hs
/-- What a loop comes to. -/
noncomputable def Lp (T : Nat → Option SFun) : LT := fun lv c st => lim fun n => (runBoth T n).2 lv c st

theorem F_iff {T : Nat → Option SFun} {g : Nat} {as : List AV} {Hs : List AObj} {r : AV × List AObj} : F T g as Hs = some r ↔ ∃ n, (runBoth T n).1 g as Hs = some r :=
  lim_iff fun n m r h e => (run_mono T h).1 _ _ _ _ e
theorem Lp_iff {T : Nat → Option SFun} {lv : List Nat} {c : SCode} {st : ASt} {r : AEx × ASt} : Lp T lv c st = some r ↔ ∃ n, (runBoth T n).2 lv c st = some r :=
  lim_iff fun n m r h e => (run_mono T h).2 _ _ _ _ e

theorem le_F (T : Nat → Option SFun) (n : Nat) : LeF (runBoth T n).1 (F T) ∧ LeL (runBoth T n).2 (Lp T) := ⟨fun g as Hs r h => F_iff.2 ⟨n, h⟩, fun lv c st r h => Lp_iff.2 ⟨n, h⟩⟩

theorem calm_lim {T : Nat → Option SFun} {σ : List AV} {H : Heap} {base : Nat} {s : SOp} {r : AV × List AObj} (hc : calm (F T) σ H base s = some r) : ∃ n, calm (runBoth T n).1 σ H base s = some r := by
  cases s <;> first | exact ⟨0, hc⟩ | skip
  case call f mode args =>
    simp only [calm] at hc ⊢
    split at hc
    · rename_i g as bs he
      split at hc
      · rename_i as' L hargs
        split at hc
        · rename_i v Hs hcall
          obtain ⟨n, hn⟩ := F_iff.1 hcall
          refine ⟨n, ?_⟩
          simp only [hn]
          exact hc
        · cases hc
      · cases hc
    · cases hc
  case callF f mode args =>
    simp only [calm] at hc ⊢
    split at hc
    · rename_i g as bs he
      split at hc
      · rename_i as' L hargs
        split at hc
        · rename_i hL
          split at hc
          · rename_i v hfv
            obtain ⟨⟨r, Hs⟩, hcall, rfl⟩ := Option.map_eq_some_iff.1 hfv
            obtain ⟨n, hn⟩ := F_iff.1 hcall
            refine ⟨n, ?_⟩
            simp only [if_pos hL, FV, hn, Option.map_some]
            exact hc
          · cases hc
        · rename_i hL
          split at hc
          · rename_i v Hs hcall
            obtain ⟨n, hn⟩ := F_iff.1 hcall
            refine ⟨n, ?_⟩
            simp only [if_neg hL, hn]
            exact hc
          · cases hc
      · cases hc
    · cases hc

theorem loud_lim {T : Nat → Option SFun} {st : ASt} {base : Nat} {s : SOp} {r : AV × ASt} (hc : loud (F T) st base s = some r) : ∃ n, loud (runBoth T n).1 st base s = some r := by
  cases s <;> first | exact ⟨0, hc⟩ | skip
  case callF f mode args =>
    simp only [loud] at hc ⊢
    split at hc
    · rename_i g as bs he
      split at hc
      · rename_i as' L hargs
        split at hc
        · cases hc
        · rename_i hL
          split at hc
          · rename_i v Hs hcall
            obtain ⟨n, hn⟩ := F_iff.1 hcall
            refine ⟨n, ?_⟩
            simp only [if_neg hL, hn]
            exact hc
          · cases hc
      · cases hc
    · cases hc
  case call f mode args =>
    simp only [loud] at hc ⊢
    split at hc
    · rename_i g as bs he
      split at hc
      · rename_i as' G os L hargs
        split at hc
        · rename_i v Hs hcall
          obtain ⟨n, hn⟩ := F_iff.1 hcall
          refine ⟨n, ?_⟩
          simp only [hn]
          exact hc
        · cases hc
      · cases hc
    · cases hc

theorem aops_lim {T : Nat → Option SFun} {draw : Bool} : ∀ {sos : List SOper} {i : Nat} {st stE : ASt}, aops (F T) draw sos i st = some stE → ∃ n, aops (runBoth T n).1 draw sos i st = some stE
  | [], i, st, stE, hc => ⟨0, hc⟩
  | so :: rest, i, st, stE, hc => by
    simp only [aops] at hc ⊢
    split at hc
    · cases hc
    · exact aops_lim hc
    · split at hc
      · rename_i v adds hca
        split at hc
        · rename_i hl
          obtain ⟨n, hn⟩ := aops_lim hc
          obtain ⟨m, hm⟩ := calm_lim hca
          refine ⟨max n m, ?_⟩
          rw [calm_mono (run_mono T (Nat.le_max_right n m)).1 hm]
          simp only []
          rw [if_pos hl]
          exact aops_mono (run_mono T (Nat.le_max_left n m)).1 hn
        · cases hc
      · rename_i hca
        split at hc
        · cases hc
        · rename_i hb
          split at hc
          · rename_i v st' hl
            split at hc
            · rename_i hlt
              obtain ⟨n, hn⟩ := aops_lim hc
              obtain ⟨m, hm⟩ := loud_lim hl
              refine ⟨max n m, ?_⟩
              rw [calm_of_loud (loud_mono (run_mono T (Nat.le_max_right n m)).1 hm)]
              simp only []
              rw [if_neg hb, loud_mono (run_mono T (Nat.le_max_right n m)).1 hm]
              simp only []
              rw [if_pos hlt]
              exact aops_mono (run_mono T (Nat.le_max_left n m)).1 hn
            · cases hc
          · cases hc

theorem acode_lim {T : Nat → Option SFun} : ∀ {s : SCode} {st : ASt} {r : AEx × ASt}, acode (F T) (Lp T) s st = some r → ∃ n, acode (runBoth T n).1 (runBoth T n).2 s st = some r := by
  intro s
  induction s with
  | skip => intro st r hc; exact ⟨0, hc⟩
  | region ops draw =>
    intro st r hc
    simp only [acode] at hc ⊢
    split at hc
    · rename_i st' h1
      obtain ⟨n, hn⟩ := aops_lim h1
      exact ⟨n, by rw [hn]; exact hc⟩
    · cases hc
  | seq a b iha ihb =>
    intro st r hc
    simp only [acode] at hc ⊢
    split at hc
    · rename_i st' h1
      obtain ⟨n, hn⟩ := iha h1
      obtain ⟨m, hm⟩ := ihb hc
      refine ⟨max n m, ?_⟩
      rw [acode_mono (run_mono T (Nat.le_max_left n m)).1 (run_mono T (Nat.le_max_left n m)).2 hn]
      exact acode_mono (run_mono T (Nat.le_max_right n m)).1 (run_mono T (Nat.le_max_right n m)).2 hm
    · rename_i r' hne
      obtain ⟨n, hn⟩ := iha hc
      refine ⟨n, ?_⟩
      rw [hn]
      split
      · rename_i st' e
        cases e
        exact absurd hc (by intro e; exact hne _ e)
      · rfl
  | cond c a b iha ihb =>
    intro st r hc
    simp only [acode] at hc ⊢
    split at hc
    · rename_i t ht
      split at hc
      · rename_i h1; simp only [if_pos h1]; exact iha hc
      · rename_i h1; simp only [if_neg h1]; exact ihb hc
    · cases hc
  | block id a ih =>
    intro st r hc
    simp only [acode] at hc ⊢
    split at hc
    · rename_i j st' h1
      obtain ⟨n, hn⟩ := ih h1
      exact ⟨n, by rw [hn]; exact hc⟩
    · rename_i r' hne
      obtain ⟨n, hn⟩ := ih hc
      refine ⟨n, ?_⟩
      rw [hn]
      split
      · rename_i j st' e
        cases e
        exact absurd hc (by intro e; exact hne _ _ e)
      · rfl
  | loop lv a ih =>
    intro st r hc
    simp only [acode] at hc ⊢
    exact Lp_iff.1 hc
  | exit id => intro st r hc; exact ⟨0, hc⟩
  | ret => intro st r hc; exact ⟨0, hc⟩

/-- A call of a function, one level laid open. -/
theorem F_call {T : Nat → Option SFun} {g : Nat} {fn : SFun} (hT : T g = some fn) {as : List AV} {Hs : List AObj} {ex : AEx} {st : ASt} {r : AV × List AObj} (h : acode (F T) (Lp T) fn.body (start fn as Hs) = some (ex, st)) (hex : ex = .normal ∨ ex = .ret) (hf : finish fn st = some r) (hp : fn.prim = none := by rfl) : F T g as Hs = some r := by
  obtain ⟨n, hn⟩ := acode_lim h
  refine F_iff.2 ⟨n + 1, ?_⟩
  show (match T g with
      | some fn => runFn (runBoth T n).1 (runBoth T n).2 fn as Hs
      | none => none) = some r
  rw [hT]
  simp only [runFn, hp, hn]
  rcases hex with rfl | rfl <;> exact hf

/-- A copy of a slice. -/
theorem F_clone {T : Nat → Option SFun} {g : Nat} {fn : SFun} (hT : T g = some fn) {e sz b : Nat} (hp : fn.prim = some (cloneR e sz b)) {s : Nat} {xs : List (List AV)} {fl : Bool} (h1 : s = sz ∨ xs = []) (h2 : xs.length * b ≤ 140737488355328) (h3 : xs.length ≤ 140737488355328) (h4 : xs.all (fun x => x.all simple) = true) :
    F T g [.ro s xs fl] [] = some (.own 0 0 xs.length, [⟨e, sz, false, xs, 0⟩]) := by
  refine F_iff.2 ⟨1, ?_⟩
  show (match T g with
      | some fn => runFn (runBoth T 0).1 (runBoth T 0).2 fn [.ro s xs fl] []
      | none => none) = _
  rw [hT]
  simp only [runFn, hp, cloneR]
  rw [if_pos ⟨h1, h2, h3, h4⟩]

/-- A loop's last round, and one that goes on. -/
theorem Lp_exit {T : Nat → Option SFun} {lv : List Nat} {c : SCode} {st st' : ASt} {ex : AEx} (h : acode (F T) (Lp T) c (canon lv st) = some (ex, st')) (hex : ex ≠ .normal) : Lp T lv c st = some (ex, st') := by
  obtain ⟨n, hn⟩ := acode_lim h
  refine Lp_iff.2 ⟨n + 1, ?_⟩
  show (match acode (runBoth T n).1 (runBoth T n).2 c (canon lv st) with
      | some (.normal, st') => (runBoth T n).2 lv c st'
      | r => r) = some (ex, st')
  rw [hn]
  cases ex with
  | normal => exact absurd rfl hex
  | exit id => rfl
  | ret => rfl

theorem Lp_next {T : Nat → Option SFun} {lv : List Nat} {c : SCode} {st st' : ASt} {r : AEx × ASt} (h : acode (F T) (Lp T) c (canon lv st) = some (.normal, st')) (hn : Lp T lv c st' = some r) : Lp T lv c st = some r := by
  obtain ⟨n, hn1⟩ := acode_lim h
  obtain ⟨m, hm⟩ := Lp_iff.1 hn
  refine Lp_iff.2 ⟨max n m + 1, ?_⟩
  show (match acode (runBoth T (max n m)).1 (runBoth T (max n m)).2 c (canon lv st) with
      | some (.normal, st') => (runBoth T (max n m)).2 lv c st'
      | r => r) = some r
  rw [acode_mono (run_mono T (Nat.le_max_left n m)).1 (run_mono T (Nat.le_max_left n m)).2 hn1]
  exact (run_mono T (Nat.le_max_right n m)).2 _ _ _ _ hm

/-- What is read of a call is what the call does. -/
theorem F_sound {P : Program} (hmix : P.follows .mixedOrders = true) {T : Nat → Option SFun} (hT : TOk P T) {g : Nat} {as : List AV} {r : AV} {Hs : List AObj} (h : F T g as [] = some (r, Hs)) {w : World} {vs : Array Value} (hl : as.length = vs.size)
    (hrep : ∀ (j : Nat) (c : AV) (v : Value), as[j]? = some c → vs[j]? = some v → Rep w (fun _ => False) mu0 c v) :
    Calls P g vs w fun e w' => ∃ v X' μ', e = .returned v ∧ Rep w' X' μ' r v ∧ Below w.heap.size w w' := by
  obtain ⟨n, hn⟩ := F_iff.1 h
  obtain ⟨_, hc⟩ := (run_sound hmix hT n).1 g as [] r Hs hn
  have := hc w (fun _ => False) mu0 vs hl hrep ⟨(fun id m h => by cases h), (fun id m h => by cases h), (fun i j mi mj h => by cases h), (fun b h => h.elim)⟩ (fun id m h => by cases h)
  exact Calls.mono this fun e w' ⟨v, X', μ', h1, h2, h3, h4, h5⟩ => ⟨v, X', μ', h1, h2, ⟨h5.os, h5.tape, h5.output, h5.size, fun k hk => h5.heap k hk (fun id m h => by cases h)⟩⟩

end Go.Proofs.Ytjpccbjgmogclaa.Lift
