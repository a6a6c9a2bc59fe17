/- A reading of the program's code by values alone: stretches of operations, one after the other. -/
import Derived.Test.YtjpccbjgmogclaaLiftL
import Derived.Orders
set_option linter.all false
set_option linter.unusedSimpArgs false
namespace Go.Proofs.Ytjpccbjgmogclaa.Lift
open Go Go.RowKit

variable {P : Program} {w : World} {X : Nat → Prop} {μ : Mu} {a : Act}

/-- An activation, as it is read. -/
structure RelA (w : World) (X : Nat → Prop) (μ : Mu) (a : Act) (st : ASt) (B : Nat) : Prop where
  σ : RelS w X μ a st.σ
  H : Holds w X μ st.H
  hb : ∀ k ob, lk st.H k = some ob → k < B
  mb : ∀ k, μ k ≠ none → k < B
  d : a.defers = []

theorem RelA.mono {st : ASt} {B B' : Nat} (h : RelA w X μ a st B) (hB : B ≤ B') : RelA w X μ a st B' :=
  ⟨h.σ, h.H, fun k ob e => Nat.lt_of_lt_of_le (h.hb k ob e) hB, fun k e => Nat.lt_of_lt_of_le (h.mb k e) hB, h.d⟩

theorem RelA.objs {st : ASt} {B : Nat} (h : RelA w X μ a st B) : Objs w X μ st.H := fun id ob m h1 h2 => by
  obtain ⟨ob', h3, h4⟩ := h.H.h id m h2
  rw [h1] at h3; cases h3; exact h4

theorem RelS.put {σ : List AV} (h : RelS w X μ a σ) {v : AV} {v' : Value} (hv : Rep w X μ v v') (d : Nat) : RelS w X μ (a.put (some d) v') (σ.set d v) := by
  refine ⟨by simp [Act.put, h.size], fun t x ht => ?_⟩
  rw [List.getElem?_set] at ht
  by_cases e : d = t
  · subst e
    rw [if_pos rfl] at ht
    split at ht
    · rename_i hlt
      cases ht
      exact ⟨v', by simp [Act.put, h.size, hlt], hv⟩
    · cases ht
  · rw [if_neg e] at ht
    obtain ⟨u, h1, h2⟩ := h.v t x ht
    exact ⟨u, by simp [Act.put, Array.getElem?_setIfInBounds_ne e, h1], h2⟩

theorem RelA.put {st : ASt} {B : Nat} (h : RelA w X μ a st B) {v : AV} {v' : Value} (hv : Rep w X μ v v') (dst : Option Nat) : RelA w X μ (a.put dst v') (put st dst v) B := by
  cases dst with
  | none => exact h
  | some d => exact ⟨h.σ.put hv d, h.H, h.hb, h.mb, h.d⟩

/-- Behind an operation that turns nothing. -/
theorem RelA.calm {st : ASt} {B : Nat} (h : RelA w X μ a st B) {w' : World} {X' : Nat → Prop} {μ' : Mu} {adds : List AObj} (he : Ext w X μ w' X' μ') (hn : New w X μ w' X' μ' B adds) (hl : adds.length ≤ 64) :
    RelA w' X' μ' a { st with H := zipFrom B adds ++ st.H } (B + 64) := by
  have old : ∀ id m, μ id = some m → id < B := fun id m e => h.mb id (by rw [e]; simp)
  have new : ∀ id m, μ' id = some m → μ id = none → ∃ k ob, id = B + k ∧ adds[k]? = some ob ∧ HObj w' X' μ' ob m ∧ X' m.b ∧ w.heap.size ≤ m.b := hn.obj
  refine ⟨⟨h.σ.size, fun t x ht => let ⟨u, h1, h2⟩ := h.σ.v t x ht; ⟨u, h1, he.rep h2⟩⟩, ⟨fun id m hm => ?_, fun id m hm => ?_, fun i j mi mj hi hj e => ?_, fun b hb => ?_⟩, fun k ob hk => ?_, fun k hk => ?_, h.d⟩
  · cases h0 : μ id with
    | none => obtain ⟨_, _, _, _, _, h1, _⟩ := new id m hm h0; exact h1
    | some m0 =>
      have := he.mu id m0 h0
      rw [hm] at this; cases this
      exact he.x1 _ (h.H.x id m h0)
  · cases h0 : μ id with
    | none =>
      obtain ⟨k, ob, rfl, hk, ho, _, _⟩ := new id m hm h0
      exact ⟨ob, by show lk (zipFrom B adds ++ st.H) (B + k) = some ob; rw [lk_app, zip_lk adds B k ob hk], ho⟩
    | some m0 =>
      have := he.mu id m0 h0
      rw [hm] at this; cases this
      obtain ⟨ob, hob, ho⟩ := h.H.h id m h0
      exact ⟨ob, by show lk (zipFrom B adds ++ st.H) id = some ob; rw [lk_app, lk_zip_none _ _ _ (.inl (old id m h0))]; exact hob, he.obj ho⟩
  · cases hi0 : μ i with
    | none =>
      cases hj0 : μ j with
      | none => exact hn.inj i j mi mj hi0 hj0 hi hj e
      | some m0 =>
        have := he.mu j m0 hj0
        rw [hj] at this; cases this
        obtain ⟨_, _, _, _, _, _, h1⟩ := new i mi hi hi0
        have := h.H.lt _ (h.H.x j mj hj0)
        omega
    | some m0 =>
      have := he.mu i m0 hi0
      rw [hi] at this; cases this
      cases hj0 : μ j with
      | none =>
        obtain ⟨_, _, _, _, _, _, h1⟩ := new j mj hj hj0
        have := h.H.lt _ (h.H.x i mi hi0)
        omega
      | some m1 =>
        have := he.mu j m1 hj0
        rw [hj] at this; cases this
        exact h.H.inj i j mi mj hi0 hj0 e
  · exact (he.lt b hb).elim (fun h1 => Nat.lt_of_lt_of_le (h.H.lt b h1) he.size) (fun h => h)
  · have hk' : lk (zipFrom B adds ++ st.H) k = some ob := hk
    rw [lk_app] at hk'
    cases hz : lk (zipFrom B adds) k with
    | none => rw [hz] at hk'; have := h.hb k ob hk'; omega
    | some ob' =>
      obtain ⟨h1, h2⟩ := lk_zip adds B k ob' hz
      have := (List.getElem?_eq_some_iff.1 h2).1
      omega
  · obtain ⟨m, hm⟩ := Option.ne_none_iff_exists'.1 hk
    cases h0 : μ k with
    | none =>
      obtain ⟨k', ob, rfl, h1, _⟩ := new k m hm h0
      have := (List.getElem?_eq_some_iff.1 h1).1
      omega
    | some m0 => have := old k m0 h0; omega

theorem lk_hput_some {H : Heap} {id k : Nat} {o ob : AObj} (h : lk (hput H id o) k = some ob) : ∃ ob', lk H k = some ob' := by
  rw [lk_hput] at h
  split at h
  · rename_i e
    subst e
    obtain ⟨x, hx, _⟩ := Option.map_eq_some_iff.1 h
    exact ⟨x, hx⟩
  · exact ⟨ob, h⟩

theorem lk_map_some {g : AObj → AObj} {H : Heap} {k : Nat} {ob : AObj} (h : lk (H.map fun p => (p.1, g p.2)) k = some ob) : ∃ ob', lk H k = some ob' := by
  rw [lk_map] at h
  obtain ⟨x, hx, _⟩ := Option.map_eq_some_iff.1 h
  exact ⟨x, hx⟩

theorem lk_hputs_some : ∀ {H : Heap} {G : List Nat} {os : List AObj} {k : Nat} {ob : AObj}, lk (hputs H G os) k = some ob → ∃ ob', lk H k = some ob'
  | H, [], os, k, ob, h => by cases os <;> exact ⟨ob, h⟩
  | H, g :: G, [], k, ob, h => ⟨ob, h⟩
  | H, g :: G, o :: os, k, ob, h => by
    simp only [hputs] at h
    obtain ⟨ob1, h1⟩ := lk_hputs_some h
    exact lk_hput_some h1

/-- What a loud operation leaves of the activation's shape. -/
theorem loud_dom {C : FT} {st st' : ASt} {base : Nat} {s : SOp} {v : AV} (h : loud C st base s = some (v, st')) :
    (∀ k ob, lk st'.H k = some ob → (∃ ob', lk st.H k = some ob') ∨ (base ≤ k ∧ k < base + 64)) ∧ st'.nxt = st.nxt ∧ st'.k = st.k ∧ st'.σ.length = st.σ.length := by
  cases s <;> simp only [loud] at h <;> try (cases h; done)
  case store n x y =>
    split at h
    · split at h
      · split at h
        · split at h
          · simp only [Option.some.injEq, Prod.mk.injEq] at h
            obtain ⟨_, rfl⟩ := h
            exact ⟨fun k ob hk => .inl (lk_hput_some hk), rfl, rfl, rfl⟩
          · cases h
        · cases h
      · cases h
    · cases h
  case append t sz bytes x y =>
    split at h
    · split at h
      · split at h
        · split at h
          · simp only [Option.some.injEq, Prod.mk.injEq] at h
            obtain ⟨_, rfl⟩ := h
            exact ⟨fun k ob hk => .inl (lk_hput_some hk), rfl, rfl, rfl⟩
          · simp only [Option.some.injEq, Prod.mk.injEq] at h
            obtain ⟨_, rfl⟩ := h
            refine ⟨fun k ob hk => .inl ?_, rfl, rfl, by simp [forget]⟩
            obtain ⟨ob1, h1⟩ := lk_hput_some hk
            exact lk_map_some h1
        · cases h
      · cases h
    · split at h
      · split at h
        · simp only [Option.some.injEq, Prod.mk.injEq] at h
          obtain ⟨_, rfl⟩ := h
          refine ⟨fun k ob hk => .inl ?_, rfl, rfl, by simp [forget]⟩
          obtain ⟨ob1, h1⟩ := lk_hput_some hk
          exact lk_map_some h1
        · cases h
      · cases h
    · split at h
      · split at h
        · split at h
          · simp only [Option.some.injEq, Prod.mk.injEq] at h
            obtain ⟨_, rfl⟩ := h
            exact ⟨fun k ob hk => .inl ⟨ob, hk⟩, rfl, rfl, rfl⟩
          · simp only [Option.some.injEq, Prod.mk.injEq] at h
            obtain ⟨_, rfl⟩ := h
            exact ⟨fun k ob hk => .inl (lk_hput_some hk), rfl, rfl, rfl⟩
        · cases h
      · cases h
    · cases h
  case clear sz zero x =>
    split at h
    · split at h
      · split at h
        · simp only [Option.some.injEq, Prod.mk.injEq] at h
          obtain ⟨_, rfl⟩ := h
          exact ⟨fun k ob hk => .inl (lk_hput_some hk), rfl, rfl, rfl⟩
        · cases h
      · cases h
    · cases h
  case appendS t bytes x y =>
    split at h
    · split at h
      · split at h
        · split at h
          · simp only [Option.some.injEq, Prod.mk.injEq] at h
            obtain ⟨_, rfl⟩ := h
            exact ⟨fun k ob hk => .inl (lk_hput_some hk), rfl, rfl, rfl⟩
          · simp only [Option.some.injEq, Prod.mk.injEq] at h
            obtain ⟨_, rfl⟩ := h
            refine ⟨fun k ob hk => .inl ?_, rfl, rfl, by simp [forget]⟩
            obtain ⟨ob1, h1⟩ := lk_hput_some hk
            exact lk_map_some h1
        · cases h
      · cases h
    · cases h
  case call f mode args =>
    have h' : loud C st base (.call f mode args) = some (v, st') := by simp only [loud]; exact h
    obtain ⟨g, as, bs, as', G, os, L, r, Hs, he, hargs, hcall, hsz, rfl, hst⟩ := loud_call_inv h'
    have key : ∀ s0 : ASt, (∀ k ob, lk s0.H k = some ob → ∃ ob', lk st.H k = some ob') → s0.nxt = st.nxt → s0.k = st.k → s0.σ.length = st.σ.length →
        (∀ k ob, lk (behind s0 base G os Hs).H k = some ob → (∃ ob', lk st.H k = some ob') ∨ (base ≤ k ∧ k < base + 64)) ∧ (behind s0 base G os Hs).nxt = st.nxt ∧ (behind s0 base G os Hs).k = st.k ∧ (behind s0 base G os Hs).σ.length = st.σ.length := by
      intro s0 h0 h1 h2 h3
      refine ⟨fun k ob hk => ?_, h1, h2, by simp [behind, h3]⟩
      simp only [behind, lk_app] at hk
      cases hz : lk (zipFrom base ((Hs.drop G.length).map (AObj.ren (backTo G base)))) k with
      | none =>
        rw [hz] at hk
        obtain ⟨ob1, h1⟩ := lk_hputs_some hk
        obtain ⟨ob2, h2⟩ := lk_map_some h1
        exact .inl (h0 k ob2 h2)
      | some ob' =>
        obtain ⟨h1, h2⟩ := lk_zip _ base k ob' hz
        have := (List.getElem?_eq_some_iff.1 h2).1
        simp at this
        exact .inr ⟨h1, by omega⟩
    rcases hst with ⟨_, rfl⟩ | ⟨_, rfl⟩
    · exact key st (fun k ob h => ⟨ob, h⟩) rfl rfl rfl
    · refine key (freeze L st) (fun k ob h => ?_) rfl rfl (by simp [freeze])
      simp only [freeze] at h
      rw [lk_map] at h
      obtain ⟨ob', h', _⟩ := Option.map_eq_some_iff.1 h
      rw [lk_filter (fun i => !L.contains i)] at h'
      split at h'
      · exact ⟨ob', h'⟩
      · cases h'

  case callF f mode args =>
    have h' : loud C st base (.callF f mode args) = some (v, st') := by simp only [loud]; exact h
    obtain ⟨g, as, bs, as', L, r, Hs, he, hargs, _, hcall, _, rfl, hL, rfl⟩ := loud_callF_inv h'
    refine ⟨fun k ob h => ?_, rfl, rfl, by simp [freeze]⟩
    simp only [freeze] at h
    rw [lk_map] at h
    obtain ⟨ob', h', _⟩ := Option.map_eq_some_iff.1 h
    rw [lk_filter (fun i => !L.contains i)] at h'
    split at h'
    · exact .inl ⟨ob', h'⟩
    · cases h'

theorem loud_none_of {C : FT} {st : ASt} {base : Nat} {s : SOp} : True := trivial

/-- An operation and its reading. -/
structure Comp1 (P : Program) (gr : List Nat) (ops : Array Oper) (o : Oper) (so : SOper) : Prop where
  op : comp P gr o = some so.op
  dst : so.dst = o.dst
  guard : match o.guard with
    | none => so.guard = none
    | some (j, want) => ∃ t, (ops[j]?).bind (·.dst) = some t ∧ so.guard = some (t, want)

theorem rep_tup' {w : World} {X : Nat → Prop} {μ : Mu} {cs : List AV} {v : Value} (h : Rep w X μ (.tup cs) v) : ∃ vs, v = .tuple vs := by
  cases h with
  | tup hl h => exact ⟨_, rfl⟩

theorem wanted_of {gr : List Nat} {ops : Array Oper} {o : Oper} {so : SOper} (hc : Comp1 P gr ops o so) {σ : List AV} (hσ : RelS w X μ a σ) {b : Bool} (h : guardOf σ so.guard = some b) : Region.wanted o (yielded ops a.tmps) = b := by
  have hg := hc.guard
  unfold Region.wanted
  split at hg
  · rename_i e
    rw [hg] at h
    rw [e]
    simp only [guardOf, Option.some.injEq] at h
    exact h
  · rename_i j want e
    obtain ⟨t, ht, hs⟩ := hg
    rw [hs] at h
    rw [e]
    simp only [guardOf] at h
    split at h
    · rename_i q hq
      have hsome : σ[t]? = some (.bool q) := by
        rw [List.getD_eq_getElem?_getD] at hq
        cases hx : σ[t]? with
        | none => rw [hx] at hq; simp at hq
        | some y => rw [hx] at hq; simp at hq; rw [hq]
      obtain ⟨v, hv, hr⟩ := hσ.v t _ hsome
      have := rep_bool hr rfl
      subst this
      have hy : yielded ops a.tmps j = some q := by unfold yielded; rw [ht]; simp [hv]
      simp only [hy]
      cases h
      cases q <;> cases want <;> rfl
    · rename_i hq
      have hsome : σ[t]? = some (.tup []) := by
        rw [List.getD_eq_getElem?_getD] at hq
        cases hx : σ[t]? with
        | none => rw [hx] at hq; simp at hq
        | some y => rw [hx] at hq; simp at hq; rw [hq]
      obtain ⟨v, hv, hr⟩ := hσ.v t _ hsome
      obtain ⟨vs, rfl⟩ := rep_tup' hr
      have hy : yielded ops a.tmps j = none := by unfold yielded; rw [ht]; simp [hv]
      simp only [hy]
      cases h
      rfl
    · cases h

theorem aops_cons {C : FT} {draw : Bool} {so : SOper} {rest : List SOper} {i : Nat} {st stE : ASt} (h : aops C draw (so :: rest) i st = some stE) :
    (guardOf st.σ so.guard = some false ∧ aops C draw rest (i + 1) (put st so.dst (.tup [])) = some stE) ∨
    (guardOf st.σ so.guard = some true ∧ ∃ v adds, calm C st.σ st.H (st.nxt + 64 * i) so.op = some (v, adds) ∧ adds.length ≤ 64 ∧ aops C draw rest (i + 1) (put { st with H := zipFrom (st.nxt + 64 * i) adds ++ st.H } so.dst v) = some stE) ∨
    (guardOf st.σ so.guard = some true ∧ (draw = true → so.bar = true) ∧ ∃ v st', loud C st (st.nxt + 64 * i) so.op = some (v, st') ∧ so.late.all (late1 (put st' so.dst v)) = true ∧ aops C draw rest (i + 1) (put st' so.dst v) = some stE) := by
  simp only [aops] at h
  split at h
  · cases h
  · rename_i e; exact .inl ⟨e, h⟩
  · rename_i e
    split at h
    · rename_i v adds hc
      split at h
      · rename_i hl; exact .inr (.inl ⟨e, v, adds, hc, hl, h⟩)
      · cases h
    · split at h
      · cases h
      · rename_i hb
        split at h
        · rename_i v st' hl
          split at h
          · rename_i hlt
            refine .inr (.inr ⟨e, fun hd => ?_, v, st', hl, hlt, h⟩)
            rw [hd] at hb; simpa using hb
          · cases h
        · cases h

theorem put_nxt (st : ASt) (d : Option Nat) (v : AV) : (put st d v).nxt = st.nxt ∧ (put st d v).k = st.k := by cases d <;> exact ⟨rfl, rfl⟩

theorem loud_step {C : FT} (hC : CSound P C) {gr : List Nat} {o : Oper} {s : SOp} (hs : comp P gr o = some s) {st st' : ASt} {B : Nat} (h : RelA w X μ a st B) {v : AV} (hl : loud C st B s = some (v, st')) {K : Act → World → Prop} {Q : Exit → Act → World → Prop}
    (hk : ∀ v' w' X' μ', RelA w' X' μ' a st' (B + 64) → FrK st.k w X μ w' X' μ' → Rep w' X' μ' v v' → K (a.put o.dst v') w') : o.wp P a w K Q := by
  have hd := loud_dom hl
  have hfr : ∀ k, k < 64 → μ (B + k) = none := fun k _ => Classical.byContradiction fun hne => by have := h.mb _ hne; omega
  refine loud_sound hC hs h.H h.σ hfr h.hb h.mb hl K Q fun v' w' X' μ' h1 h2 h3 h4 h5 => hk v' w' X' μ' ⟨h2, h3, fun k ob hk => ?_, fun k hk => ?_, h.d⟩ (by rw [← hd.2.2.1]; exact h1) h4
  · rcases hd.1 k ob hk with ⟨ob', h6⟩ | ⟨_, h6⟩
    · have := h.hb k ob' h6; omega
    · exact h6
  · rcases h5 k hk with h6 | ⟨ob', h6⟩ | ⟨_, h6⟩
    · have := h.mb k h6; omega
    · have := h.hb k ob' h6; omega
    · exact h6

theorem calm_step {C : FT} (hC : CSound P C) {gr : List Nat} {o : Oper} {s : SOp} (hs : comp P gr o = some s) {st : ASt} {B : Nat} (h : RelA w X μ a st B) {v : AV} {adds : List AObj} (hc : calm C st.σ st.H B s = some (v, adds)) (hlen : adds.length ≤ 64) {K : Act → World → Prop} {Q : Exit → Act → World → Prop}
    (hk : ∀ v' w' X' μ', RelA w' X' μ' a { st with H := zipFrom B adds ++ st.H } (B + 64) → FrK st.k w X μ w' X' μ' → Rep w' X' μ' v v' → K (a.put o.dst v') w') : o.wp P a w K Q := by
  have hfr : ∀ k, k < adds.length → μ (B + k) = none := fun k _ => Classical.byContradiction fun hne => by have := h.mb _ hne; omega
  exact calm_sound hC hs h.objs h.H.x h.H.inj h.H.lt h.H.nc h.σ hc hfr K Q fun v' w' X' μ' h1 h2 h3 => hk v' w' X' μ' (h.calm h1 h3 hlen) h1.toK h2

/-- One operation, in the text's order. -/
theorem op_step {C : FT} (hC : CSound P C) {gr : List Nat} {ops : Array Oper} {draw : Bool} {so : SOper} {rest : List SOper} {i idx : Nat} {o : Oper} (ho : ops[idx]? = some o) (hc : Comp1 P gr ops o so) {st stE : ASt} (h : aops C draw (so :: rest) i st = some stE) (hr : RelA w X μ a st (st.nxt + 64 * i))
    {K : Act → World → Prop} {Q : Exit → Act → World → Prop} (hk : ∀ a' w' X' μ' st1, aops C draw rest (i + 1) st1 = some stE → RelA w' X' μ' a' st1 (st1.nxt + 64 * (i + 1)) → st1.nxt = st.nxt → st1.k = st.k → FrK st.k w X μ w' X' μ' → K a' w') : wpOp P ops Q idx K a w := by
  unfold wpOp
  rw [ho]
  simp only []
  rcases aops_cons h with ⟨hg, hrest⟩ | ⟨hg, v, adds, hca, hlen, hrest⟩ | ⟨hg, _, v, st', hl, _, hrest⟩
  · rw [if_neg (by rw [wanted_of hc hr.σ hg]; simp)]
    refine hk _ w X μ _ hrest ?_ (put_nxt _ _ _).1 (put_nxt _ _ _).2 .refl
    rw [(put_nxt _ _ _).1, hc.dst]
    exact (hr.put (v := .tup []) (.tup rfl (by simp)) o.dst).mono (by omega)
  · rw [if_pos (wanted_of hc hr.σ hg)]
    left
    refine calm_step hC hc.op hr hca hlen fun v' w' X' μ' h1 h2 h3 => hk _ w' X' μ' _ hrest ?_ (put_nxt _ _ _).1 (put_nxt _ _ _).2 h2
    rw [(put_nxt _ _ _).1, hc.dst]
    exact (h1.put h3 o.dst).mono (by show st.nxt + 64 * i + 64 ≤ st.nxt + 64 * (i + 1); omega)
  · rw [if_pos (wanted_of hc hr.σ hg)]
    left
    have hd := loud_dom hl
    refine loud_step hC hc.op hr hl fun v' w' X' μ' h1 h2 h3 => hk _ w' X' μ' _ hrest ?_ ((put_nxt _ _ _).1.trans hd.2.1) ((put_nxt _ _ _).2.trans hd.2.2.1) h2
    rw [(put_nxt _ _ _).1, hc.dst, hd.2.1]
    exact (h1.put h3 o.dst).mono (by omega)

/-- A stretch of operations in the text's order. -/
theorem ops_seq {C : FT} (hC : CSound P C) {gr : List Nat} {ops : Array Oper} {draw : Bool} {Q : Exit → Act → World → Prop} : ∀ (sos : List SOper) (i : Nat) {w : World} {X : Nat → Prop} {μ : Mu} {a : Act} {st stE : ASt}, (∀ j so, sos[j]? = some so → ∃ o, ops[i + j]? = some o ∧ Comp1 P gr ops o so) → aops C draw sos i st = some stE →
    RelA w X μ a st (st.nxt + 64 * i) → (∀ a' w' X' μ', RelA w' X' μ' a' stE (stE.nxt + 64 * (i + sos.length)) → stE.nxt = st.nxt → stE.k = st.k → FrK st.k w X μ w' X' μ' → Q .normal a' w') → wpOps P ops Q (List.range' i sos.length) a w
  | [], i, w, X, μ, a, st, stE, hcs, h, hr, hk => by
    simp only [aops, Option.some.injEq] at h
    subst h
    simp only [List.length_nil, List.range'_zero, wpOps]
    exact hk a w X μ (by simpa using hr) rfl rfl .refl
  | so :: rest, i, w, X, μ, a, st, stE, hcs, h, hr, hk => by
    obtain ⟨o, ho, hc⟩ := hcs 0 so rfl
    simp only [List.length_cons, List.range'_succ, wpOps_cons]
    refine op_step hC (by simpa using ho) hc h hr fun a' w' X' μ' st1 h1 h2 h3 h4 h5 => ?_
    refine ops_seq (gr := gr) hC rest (i + 1) (fun j so hj => ?_) h1 h2 fun a'' w'' X'' μ'' k1 k2 k3 k4 => hk a'' w'' X'' μ'' ?_ (k2.trans h3) (k3.trans h4) (h5.trans (by rw [← h4]; exact k4))
    · obtain ⟨o', ho', hc'⟩ := hcs (j + 1) so (by simpa using hj)
      exact ⟨o', by rw [← ho']; congr 1; omega, hc'⟩
    · rw [show i + (so :: rest).length = i + 1 + rest.length by simp; omega]; exact k1

end Go.Proofs.Ytjpccbjgmogclaa.Lift
