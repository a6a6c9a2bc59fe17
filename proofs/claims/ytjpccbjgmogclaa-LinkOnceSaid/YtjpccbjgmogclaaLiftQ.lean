/- A reading of the program's code by values alone: how calls are reckoned. -/
import Derived.Test.YtjpccbjgmogclaaLiftP
set_option linter.all false
set_option linter.unusedSimpArgs false
namespace Go.Proofs.Ytjpccbjgmogclaa.Lift
open Go Go.RowKit

attribute [simp] acode aops late1 calm loud ev evs lenOf binOpA binInt gradedCmp put guardOf at_ zipFrom lk hput setCells cells one isOwn argIds closure relist living canon start result rval finish pos optI isInt content fill hasRO roAny ids AV.ren renL_eq AObj.ren isByte clo lend lend1 backTo moved dropL hputs forget drop1 target assocN grants lents lentIds unf unf1 simple others behind freeze AV.fz fzL_eq AObj.fz fresh freshes callArgs

@[simp] theorem eraseDups_one (a : Nat) : [a].eraseDups = [a] := by simp [List.eraseDups_cons]

/-- One part behind the other. -/
theorem A_seq {C : FT} {L : LT} {a b : SCode} {st st1 : ASt} {r : Option (AEx × ASt)} (h1 : acode C L a st = some (.normal, st1)) (h2 : acode C L b st1 = r) : acode C L (.seq a b) st = r := by
  simp only [acode, h1, h2]
theorem A_stop {C : FT} {L : LT} {a b : SCode} {st st1 : ASt} {ex : AEx} (h1 : acode C L a st = some (ex, st1)) (hx : ex ≠ .normal) : acode C L (.seq a b) st = some (ex, st1) := by
  simp only [acode, h1]
  cases ex <;> first | rfl | exact absurd rfl hx
theorem A_block {C : FT} {L : LT} {c : SCode} {id : Nat} {st st1 : ASt} (h : acode C L c st = some (.exit id, st1)) : acode C L (.block id c) st = some (.normal, st1) := by
  simp [acode, h]

/-- What a call comes to, its rows only read. -/
theorem FV_of {T : Nat → Option SFun} {g : Nat} {as : List AV} {r : AV} {Hs : List AObj} (h : F T g as [] = some (r, Hs)) : FV (F T) g as = some (clo [] 504 (zipFrom 0 Hs) r) := by simp [FV, h]
theorem FV_call {T : Nat → Option SFun} {g : Nat} {fn : SFun} (hT : T g = some fn) {as : List AV} {ex : AEx} {st : ASt} {r : AV} {Hs : List AObj} {v : AV} (h : acode (F T) (Lp T) fn.body (start fn as []) = some (ex, st)) (hex : ex = .normal ∨ ex = .ret) (hf : finish fn st = some (r, Hs)) (hv : clo [] 504 (zipFrom 0 Hs) r = v) (hp : fn.prim = none := by rfl) : FV (F T) g as = some v := by
  rw [FV_of (F_call hT h hex hf hp), hv]

/-- What a stretch of code comes to, and what holds behind it. -/
def W (T : Nat → Option SFun) (c : SCode) (st : ASt) (Q : AEx → ASt → Prop) : Prop := ∃ ex st', acode (F T) (Lp T) c st = some (ex, st') ∧ Q ex st'

/-- What holds behind a function's code. -/
def Fin (fn : SFun) (r : AV × List AObj) : AEx → ASt → Prop := fun ex st => (ex = .normal ∨ ex = .ret) ∧ finish fn st = some r

section
variable {T : Nat → Option SFun} {a b c : SCode} {st st1 : ASt} {Q : AEx → ASt → Prop} {ex : AEx} {fn : SFun} {r : AV × List AObj}

theorem W_eval (h : acode (F T) (Lp T) c st = some (ex, st1)) (hq : Q ex st1) : W T c st Q := ⟨ex, st1, h, hq⟩

theorem W_seq (h : W T a st (fun ex st1 => match ex with | .normal => W T b st1 Q | e => Q e st1)) : W T (.seq a b) st Q := by
  obtain ⟨ex, st1, h1, h2⟩ := h
  cases ex with
  | normal =>
    obtain ⟨ex2, st2, h3, h4⟩ := h2
    exact ⟨ex2, st2, by simp only [acode, h1, h3], h4⟩
  | exit id => exact ⟨_, st1, by simp only [acode, h1], h2⟩
  | ret => exact ⟨_, st1, by simp only [acode, h1], h2⟩

theorem W_go (h : acode (F T) (Lp T) a st = some (.normal, st1)) (hb : W T b st1 Q) : W T (.seq a b) st Q := W_seq ⟨_, _, h, hb⟩

theorem W_assoc (h : W T (.seq a (.seq b c)) st Q) : W T (.seq (.seq a b) c) st Q := by
  obtain ⟨ex, st1, h1, h2⟩ := h
  refine ⟨ex, st1, ?_, h2⟩
  simp only [acode] at h1 ⊢
  cases ha : acode (F T) (Lp T) a st with
  | none => rw [ha] at h1; simpa using h1
  | some q =>
    obtain ⟨e, s⟩ := q
    rw [ha] at h1
    cases e <;> simpa using h1

theorem W_block {id : Nat} (h : W T c st (fun ex st1 => match ex with | .exit j => if j = id then Q .normal st1 else Q (.exit j) st1 | e => Q e st1)) : W T (.block id c) st Q := by
  obtain ⟨ex, st1, h1, h2⟩ := h
  cases ex with
  | normal => exact ⟨_, st1, by simp only [acode, h1], h2⟩
  | exit j =>
    by_cases hj : j = id
    · exact ⟨.normal, st1, by simp only [acode, h1, if_pos hj], by simpa [hj] using h2⟩
    · exact ⟨.exit j, st1, by simp only [acode, h1, if_neg hj], by simpa [hj] using h2⟩
  | ret => exact ⟨_, st1, by simp only [acode, h1], h2⟩

theorem W_cond {x : SOpd} {t : Bool} (ht : ev st.σ x = .bool t) (h : W T (if t = true then a else b) st Q) : W T (.cond x a b) st Q := by
  obtain ⟨ex, st1, h1, h2⟩ := h
  refine ⟨ex, st1, ?_, h2⟩
  simp only [acode, ht]
  cases t <;> simpa using h1

theorem W_loop {lv : List Nat} (h : W T c (canon lv st) (fun ex st1 => match ex with | .normal => W T (.loop lv c) st1 Q | e => Q e st1)) : W T (.loop lv c) st Q := by
  obtain ⟨ex, st1, h1, h2⟩ := h
  cases ex with
  | normal =>
    obtain ⟨ex2, st2, h3, h4⟩ := h2
    simp only [acode] at h3
    exact ⟨ex2, st2, by simp only [acode]; exact Lp_next h1 h3, h4⟩
  | exit id => exact ⟨_, st1, by simp only [acode]; exact Lp_exit h1 (by simp), h2⟩
  | ret => exact ⟨_, st1, by simp only [acode]; exact Lp_exit h1 (by simp), h2⟩

/-- A loop in a block, with what comes behind: another round, the end, a return. -/
theorem W_next {lv : List Nat} {id : Nat} (h : acode (F T) (Lp T) c (canon lv st) = some (.normal, st1)) (hn : W T (.seq (.block id (.loop lv c)) b) st1 Q) : W T (.seq (.block id (.loop lv c)) b) st Q := by
  obtain ⟨ex, st2, h1, h2⟩ := hn
  refine ⟨ex, st2, ?_, h2⟩
  simp only [acode] at h1 ⊢
  cases hl : Lp T lv c st1 with
  | none => rw [hl] at h1; simp at h1
  | some q => rw [Lp_next h hl]; rw [hl] at h1; exact h1

theorem W_exit {lv : List Nat} {id : Nat} (h : acode (F T) (Lp T) c (canon lv st) = some (.exit id, st1)) (hb : W T b st1 Q) : W T (.seq (.block id (.loop lv c)) b) st Q := by
  refine W_go (st1 := st1) ?_ hb
  simp only [acode]
  rw [Lp_exit h (by simp)]
  simp

theorem W_ret {lv : List Nat} {id : Nat} (h : acode (F T) (Lp T) c (canon lv st) = some (.ret, st1)) (hq : Q .ret st1) : W T (.seq (.block id (.loop lv c)) b) st Q := by
  refine ⟨.ret, st1, ?_, hq⟩
  simp only [acode]
  rw [Lp_exit h (by simp)]

theorem W_fin (h : acode (F T) (Lp T) c st = some (ex, st1)) (hx : ex = .normal ∨ ex = .ret) (hf : finish fn st1 = some r) : W T c st (Fin fn r) := ⟨ex, st1, h, hx, hf⟩

theorem W_stop (h : acode (F T) (Lp T) a st = some (.ret, st1)) (hf : finish fn st1 = some r) : W T (.seq a b) st (Fin fn r) := W_seq ⟨.ret, st1, h, .inr rfl, hf⟩

theorem F_W {g : Nat} (hT : T g = some fn) {as : List AV} {Hs : List AObj} (h : W T fn.body (start fn as Hs) (Fin fn r)) (hp : fn.prim = none := by rfl) : F T g as Hs = some r := by
  obtain ⟨ex, st', h1, h2, h3⟩ := h
  exact F_call hT h1 h2 h3 hp

theorem FV_W {g : Nat} (hT : T g = some fn) {as : List AV} {v : AV} (h : W T fn.body (start fn as []) (Fin fn r)) (hv : clo [] 504 (zipFrom 0 r.2) r.1 = v) (hp : fn.prim = none := by rfl) : FV (F T) g as = some v := by
  rw [FV_of (F_W hT h hp), hv]
end

theorem aops_one {C : FT} {d : Bool} (o : SOper) (r : List SOper) (i : Nat) (st : ASt) : aops C d (o :: r) i st = (match aops C d [o] i st with | some st1 => aops C d r (i + 1) st1 | none => none) := by
  simp only [aops]
  cases guardOf st.σ o.guard with
  | none => rfl
  | some g =>
    cases g with
    | false => rfl
    | true =>
      simp only []
      cases calm C st.σ st.H (st.nxt + 64 * i) o.op with
      | some q => simp only []; by_cases hq : q.2.length ≤ 64 <;> simp [hq]
      | none =>
        simp only []
        cases (d && !o.bar) with
        | true => rfl
        | false =>
          simp only [Bool.false_eq_true, if_false]
          cases loud C st (st.nxt + 64 * i) o.op with
          | none => rfl
          | some q =>
            simp only []
            by_cases hq : o.late.all (late1 (put q.2 o.dst q.1)) = true
            · rw [if_pos hq, if_pos hq]
            · rw [if_neg hq, if_neg hq]

/-- The rest of a region, and what comes behind it. -/
def R (T : Nat → Option SFun) (d : Bool) (n : Nat) (ops : List SOper) (i : Nat) (st : ASt) (b : SCode) (Q : AEx → ASt → Prop) : Prop :=
  ∃ st1, aops (F T) d ops i st = some st1 ∧ W T b { st1 with nxt := st1.nxt + 64 * n } Q

section
variable {T : Nat → Option SFun} {a b c c' : SCode} {st st1 : ASt} {Q : AEx → ASt → Prop} {ex : AEx} {fn : SFun} {r : AV × List AObj}

theorem R_op {d : Bool} {n i : Nat} {o : SOper} {ops : List SOper} (h : aops (F T) d [o] i st = some st1) (hr : R T d n ops (i + 1) st1 b Q) : R T d n (o :: ops) i st b Q := by
  obtain ⟨s2, h1, h2⟩ := hr
  exact ⟨s2, by rw [aops_one, h]; exact h1, h2⟩

theorem R_nil {d : Bool} {n i : Nat} {σ : List AV} {H : Heap} {nxt k m : Nat} (hm : some (nxt + 64 * n) = some m) (h : W T b ⟨σ, H, m, k⟩ Q) : R T d n [] i ⟨σ, H, nxt, k⟩ b Q := by
  injection hm with hm; subst hm
  exact ⟨_, rfl, h⟩

theorem W_reg {d : Bool} {ops : List SOper} {n : Nat} (hn : some ops.length = some n) (h : R T d n ops 0 st b Q) : W T (.seq (.region ops d) b) st Q := by
  injection hn with hn; subst hn
  obtain ⟨s2, h1, h2⟩ := h
  refine W_go (st1 := { s2 with nxt := s2.nxt + 64 * ops.length }) ?_ h2
  simp only [acode, h1]

theorem W_ct {x : SOpd} (ht : ev st.σ x = .bool true) (h : W T (.seq a c) st Q) : W T (.seq (.cond x a b) c) st Q := by
  obtain ⟨ex, s, h1, h2⟩ := h
  refine ⟨ex, s, ?_, h2⟩
  simp only [acode, ht] at h1 ⊢
  exact h1

theorem W_cf {x : SOpd} (ht : ev st.σ x = .bool false) (h : W T (.seq b c) st Q) : W T (.seq (.cond x a b) c) st Q := by
  obtain ⟨ex, s, h1, h2⟩ := h
  refine ⟨ex, s, ?_, h2⟩
  simp only [acode, ht] at h1 ⊢
  exact h1

theorem W_skip (h : W T b st Q) : W T (.seq .skip b) st Q := W_go (st1 := st) rfl h
theorem W_end (h : Q .normal st) : W T .skip st Q := ⟨_, _, rfl, h⟩
theorem W_tail (h : W T (.seq a .skip) st Q) : W T a st Q := by
  obtain ⟨ex, s, h1, h2⟩ := h
  refine ⟨ex, s, ?_, h2⟩
  simp only [acode] at h1
  cases ha : acode (F T) (Lp T) a st with
  | none => rw [ha] at h1; simp at h1
  | some q => obtain ⟨e, s'⟩ := q; rw [ha] at h1; cases e <;> simpa using h1
theorem W_rt (h : Q .ret st) : W T (.seq .ret b) st Q := ⟨_, _, rfl, h⟩
theorem W_ex {id : Nat} (h : Q (.exit id) st) : W T (.seq (.exit id) b) st Q := ⟨_, _, rfl, h⟩

/-- Behind a block. -/
def QB (T : Nat → Option SFun) (id : Nat) (b : SCode) (Q : AEx → ASt → Prop) : AEx → ASt → Prop := fun ex st => match ex with
  | .normal => W T b st Q
  | .exit j => if j = id then W T b st Q else Q (.exit j) st
  | .ret => Q .ret st

/-- Behind a round of a loop in a block. -/
def QL (T : Nat → Option SFun) (lv : List Nat) (c : SCode) (id : Nat) (b : SCode) (Q : AEx → ASt → Prop) : AEx → ASt → Prop := fun ex st => match ex with
  | .normal => W T (.seq (.block id (.loop lv c)) b) st Q
  | .exit j => if j = id then W T b st Q else Q (.exit j) st
  | .ret => Q .ret st

theorem QB_normal {id : Nat} (h : W T b st Q) : QB T id b Q .normal st := h
theorem QB_exit {id : Nat} (h : W T b st Q) : QB T id b Q (.exit id) st := by simpa [QB] using h
theorem QB_out {id j : Nat} (hj : j ≠ id) (h : Q (.exit j) st) : QB T id b Q (.exit j) st := by simpa [QB, hj] using h
theorem QB_ret {id : Nat} (h : Q .ret st) : QB T id b Q .ret st := h
theorem QL_next {lv : List Nat} {id : Nat} (h : W T (.seq (.block id (.loop lv c)) b) st Q) : QL T lv c id b Q .normal st := h
theorem QL_exit {lv : List Nat} {id : Nat} (h : W T b st Q) : QL T lv c id b Q (.exit id) st := by simpa [QL] using h
theorem QL_out {lv : List Nat} {id j : Nat} (hj : j ≠ id) (h : Q (.exit j) st) : QL T lv c id b Q (.exit j) st := by simpa [QL, hj] using h
theorem QL_ret {lv : List Nat} {id : Nat} (h : Q .ret st) : QL T lv c id b Q .ret st := h

theorem W_bl {id : Nat} (h : W T c st (QB T id b Q)) : W T (.seq (.block id c) b) st Q := by
  obtain ⟨ex, s, h1, h2⟩ := h
  cases ex with
  | normal => exact W_go (by simp only [acode, h1]) h2
  | exit j =>
    by_cases hj : j = id
    · subst hj
      exact W_go (st1 := s) (by simp only [acode, h1, if_true]) (by simpa [QB] using h2)
    · exact ⟨.exit j, s, by simp only [acode, h1, if_neg hj], by simpa [QB, hj] using h2⟩
  | ret => exact ⟨.ret, s, by simp only [acode, h1], h2⟩

theorem W_round {lv : List Nat} {id : Nat} (hs : canon lv st = st1) (h : W T c st1 (QL T lv c id b Q)) : W T (.seq (.block id (.loop lv c)) b) st Q := by
  subst hs
  obtain ⟨ex, s, h1, h2⟩ := h
  cases ex with
  | normal => exact W_next h1 h2
  | exit j =>
    by_cases hj : j = id
    · subst hj
      exact W_exit h1 (by simpa [QL] using h2)
    · refine ⟨.exit j, s, ?_, by simpa [QL, hj] using h2⟩
      simp only [acode]
      rw [Lp_exit h1 (by simp)]
      simp [hj]
  | ret => exact W_ret h1 h2

theorem Fin_ret (h : finish fn st = some r) : Fin fn r .ret st := ⟨.inr rfl, h⟩
theorem Fin_end (h : finish fn st = some r) : Fin fn r .normal st := ⟨.inl rfl, h⟩
end

attribute [irreducible] R QB QL W

end Go.Proofs.Ytjpccbjgmogclaa.Lift
