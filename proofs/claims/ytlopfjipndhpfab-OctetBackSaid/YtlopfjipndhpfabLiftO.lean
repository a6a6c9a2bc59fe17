/- A reading of the program's code by values alone: whole functions. What is read of a call is what the call does. -/
import Derived.Test.YtlopfjipndhpfabLiftN
set_option linter.unusedVariables false
set_option linter.unusedSimpArgs false
namespace Go.Proofs.Ytlopfjipndhpfab.Lift
open Go Go.RowKit

variable {P : Program} {w : World} {X : Nat → Prop} {μ : Mu} {a : Act}

def AEx.out : AEx → Exit
  | .normal => .normal
  | .exit id => .exit id
  | .ret => .ret

/-- What is shown of code. -/
def Post (w0 : World) (X0 : Nat → Prop) (μ0 : Mu) (k : Nat) (ex : AEx) (st' : ASt) : Exit → Act → World → Prop :=
  fun e a' w' => e = ex.out ∧ ∃ X' μ', RelA w' X' μ' a' st' st'.nxt ∧ Fr w0 X0 μ0 w' X' μ' ∧ st'.k = k

def LSound (P : Program) (L : LT) : Prop := ∀ (w0 : World) (X0 : Nat → Prop) (μ0 : Mu) (k : Nat), (∀ id, μ0 id ≠ none → id < k) → ∀ (gr : List Nat) (ann : List (List Nat)) (c : Code) (n : Nat) (s : SCode) (n' : Nat), ccode P gr ann c n = some (s, n') →
  ∀ lv st ex st', L lv s st = some (ex, st') → ∀ a w X μ, RelA w X μ a st st.nxt → Fr w0 X0 μ0 w X μ → st.k = k → ∀ (b : Frame) (q : List Item) (cs : List Frame),
    ∃ e a' w', Post w0 X0 μ0 k ex st' e a' w' ∧ Arrives P (lone (b.at a (.code c :: .inLoop c :: q)) cs w) b q cs e a' w'

theorem cregion_spec {gr : List Nat} {ops : Array Oper} {draw : Bool} {s : SCode} (h : cregion P gr ops.toList draw = some s) : ∃ sos : List SOper, s = .region sos draw ∧ sos.length = ops.size ∧ (∀ (j : Nat) (so : SOper), sos[j]? = some so → ∃ o : Oper, ops[j]? = some o ∧ Comp1 P gr ops o so) ∧
    (draw = true → tmpsOk sos (befs ops.toList []) = true ∧ edgesOk ops.toList = true ∧ ∀ (j : Nat) (so : SOper), sos[j]? = some so → so.bar = isBar (befs ops.toList []) ops.size j) := by
  unfold cregion at h
  split at h
  · rename_i sos hm
    split at h
    · cases h
    rename_i hcond
    cases h
    obtain ⟨hl, hat⟩ := mapM_at hm
    have hone : ∀ (j : Nat) (so : SOper), sos[j]? = some so → ∃ o : Oper, ops[j]? = some o ∧ Comp1 P gr ops o so ∧ so.bar = (draw && isBar (befs ops.toList []) ops.size j) := by
      intro j so hj
      obtain ⟨p, hp, hf⟩ := hat j so hj
      rw [List.getElem?_zipIdx] at hp
      obtain ⟨o, ho, rfl⟩ := Option.map_eq_some_iff.1 hp
      unfold coper at hf
      split at hf
      · rename_i s g hs hg
        cases hf
        refine ⟨o, by simpa using ho, ⟨hs, rfl, ?_⟩, by simp⟩
        simp only [] at hg
        unfold cguard at hg
        split at hg
        · rename_i e
          rw [e]; cases hg; rfl
        · rename_i j' want e
          rw [e]
          split at hg
          · rename_i t ht
            cases hg
            exact ⟨t, by simpa using ht, rfl⟩
          · cases hg
      · cases hf
    refine ⟨sos, rfl, by rw [← hl]; simp, fun j so hj => let ⟨o, h1, h2, _⟩ := hone j so hj; ⟨o, h1, h2⟩, fun hd => ?_⟩
    subst hd
    simp only [true_and, not_or, Bool.not_eq_false] at hcond
    refine ⟨hcond.1, hcond.2, fun j so hj => ?_⟩
    obtain ⟨o, _, _, h3⟩ := hone j so hj
    simpa using h3
  · cases h

set_option maxHeartbeats 1000000 in
theorem code_sound {C : FT} {L : LT} (hC : CSound P C) (hL : LSound P L) (hmix : P.follows .mixedOrders = true) {w0 : World} {X0 : Nat → Prop} {μ0 : Mu} {k : Nat} (h0 : ∀ id, μ0 id ≠ none → id < k) {gr : List Nat} {ann : List (List Nat)} :
    ∀ (c : Code) (n : Nat) (s : SCode) (n' : Nat), ccode P gr ann c n = some (s, n') → ∀ st ex st', acode C L s st = some (ex, st') → ∀ a w X μ, RelA w X μ a st st.nxt → Fr w0 X0 μ0 w X μ → st.k = k → c.wp P (Post w0 X0 μ0 k ex st') a w := by
  intro c
  induction c with
  | skip =>
    intro n s n' h st ex st' hc a w X μ hr hf hk
    simp only [ccode, Option.some.injEq, Prod.mk.injEq] at h
    obtain ⟨rfl, rfl⟩ := h
    simp only [acode, Option.some.injEq, Prod.mk.injEq] at hc
    obtain ⟨rfl, rfl⟩ := hc
    exact wp_skip ⟨rfl, X, μ, hr, hf, hk⟩
  | region id ops draw =>
    intro n s n' h st ex st' hc a w X μ hr hf hk
    simp only [ccode] at h
    obtain ⟨s', hs', e⟩ := Option.map_eq_some_iff.1 h
    cases e
    obtain ⟨sos, rfl, hlen, hcs, hd⟩ := cregion_spec hs'
    simp only [acode] at hc
    split at hc
    · rename_i stE hE
      cases hc
      have fin : ∀ w1 X1 μ1, RelA w1 X1 μ1 a st st.nxt → Fr w0 X0 μ0 w1 X1 μ1 → ∀ a' w' X' μ', RelA w' X' μ' a' stE (stE.nxt + 64 * sos.length) → stE.nxt = st.nxt → stE.k = st.k → Fr w1 X1 μ1 w' X' μ' → Post w0 X0 μ0 k .normal { stE with nxt := stE.nxt + 64 * sos.length } .normal a' w' := by
        intro w1 X1 μ1 _ hf1 a' w' X' μ' h1 h2 h3 h4
        exact ⟨rfl, X', μ', ⟨h1.σ, h1.H, h1.hb, h1.mb, h1.d⟩, hf1.trans h4, h3.trans hk⟩
      cases draw with
      | false =>
        refine wp_region ?_
        rw [← hlen, List.range_eq_range']
        exact ops_seq (gr := gr) hC sos 0 (fun j so hj => by simpa using hcs j so hj) hE (by simpa using hr) (by simpa using fin w X μ hr hf)
      | true =>
        obtain ⟨d1, d2, d3⟩ := hd rfl
        have hdr : RelA w.drew X μ a st st.nxt := by
          have := hr.calm (adds := []) Ext.drew .same (by simp)
          exact ⟨this.σ, this.H, hr.hb, hr.mb, hr.d⟩
        exact wp_region_any hmix (ops_draw (gr := gr) hC hlen hcs d1 d2 d3 hE hdr (fin w.drew X μ hdr (hf.ext Ext.drew)))
    · cases hc
  | seq x y ihx ihy =>
    intro n s n' h st ex st' hc a w X μ hr hf hk
    simp only [ccode] at h
    split at h
    · rename_i sx nx hx
      obtain ⟨⟨sy, ny⟩, hy, e⟩ := Option.map_eq_some_iff.1 h
      cases e
      simp only [acode] at hc
      split at hc
      · rename_i st1 h1
        refine wp_seq (wp_mono (ihx n sx nx hx st .normal st1 h1 a w X μ hr hf hk) fun e a' w' ⟨he, X', μ', k1, k2, k3⟩ => ?_)
        subst he
        exact ihy nx sy ny hy st1 ex st' hc a' w' X' μ' k1 k2 k3
      · rename_i r hne
        refine wp_seq (wp_mono (ihx n sx nx hx st ex st' hc a w X μ hr hf hk) fun e a' w' ⟨he, X', μ', k1, k2, k3⟩ => ?_)
        subst he
        cases ex with
        | normal => exact absurd hc (by intro e; exact hne _ e)
        | exit id => exact ⟨rfl, X', μ', k1, k2, k3⟩
        | ret => exact ⟨rfl, X', μ', k1, k2, k3⟩
    · cases h
  | cond c x y ihx ihy =>
    intro n s n' h st ex st' hc a w X μ hr hf hk
    simp only [ccode] at h
    split at h
    · rename_i c' sx nx hc' hx
      obtain ⟨⟨sy, ny⟩, hy, e⟩ := Option.map_eq_some_iff.1 h
      cases e
      simp only [acode] at hc
      split at hc
      · rename_i t ht
        have hb := rep_bool (hr.σ.ev hc') ht
        split at hc
        · rename_i ht1
          subst ht1
          exact wp_cond_true hb (ihx n sx nx hx st ex st' hc a w X μ hr hf hk)
        · rename_i ht1
          have : t = false := by simpa using ht1
          subst this
          exact wp_cond_false hb (ihy nx sy ny hy st ex st' hc a w X μ hr hf hk)
      · cases hc
    · cases h
  | block id x ih =>
    intro n s n' h st ex st' hc a w X μ hr hf hk
    simp only [ccode] at h
    obtain ⟨⟨sx, nx⟩, hx, e⟩ := Option.map_eq_some_iff.1 h
    cases e
    simp only [acode] at hc
    split at hc
    · rename_i j st1 h1
      refine wp_block (wp_mono (ih n sx nx hx st (.exit j) st1 h1 a w X μ hr hf hk) fun e a' w' ⟨he, X', μ', k1, k2, k3⟩ => ?_)
      subst he
      simp only [AEx.out, Exit.inBlock]
      split at hc
      · rename_i hj
        cases hc
        rw [if_pos hj]
        exact ⟨rfl, X', μ', k1, k2, k3⟩
      · rename_i hj
        cases hc
        rw [if_neg hj]
        exact ⟨rfl, X', μ', k1, k2, k3⟩
    · rename_i r hne
      refine wp_block (wp_mono (ih n sx nx hx st ex st' hc a w X μ hr hf hk) fun e a' w' ⟨he, X', μ', k1, k2, k3⟩ => ?_)
      subst he
      cases ex with
      | normal => exact ⟨rfl, X', μ', k1, k2, k3⟩
      | exit j => exact absurd hc (by intro e; exact hne _ _ e)
      | ret => exact ⟨rfl, X', μ', k1, k2, k3⟩
  | loop x ih =>
    intro n s n' h st ex st' hc a w X μ hr hf hk
    simp only [ccode] at h
    obtain ⟨⟨sx, nx⟩, hx, e⟩ := Option.map_eq_some_iff.1 h
    cases e
    simp only [acode] at hc
    intro b q cs
    obtain ⟨e, a', w', h1, h2⟩ := hL w0 X0 μ0 k h0 gr ann x (n + 1) sx nx hx _ st ex st' hc a w X μ hr hf hk b q cs
    exact ⟨e, a', w', h1, .of_steps (.one step_loop) h2⟩
  | rangeFunc f ps x y ihx ihy => intro n s n' h; simp [ccode] at h
  | exit id =>
    intro n s n' h st ex st' hc a w X μ hr hf hk
    simp only [ccode, Option.some.injEq, Prod.mk.injEq] at h
    obtain ⟨rfl, rfl⟩ := h
    simp only [acode, Option.some.injEq, Prod.mk.injEq] at hc
    obtain ⟨rfl, rfl⟩ := hc
    exact wp_exit ⟨rfl, X, μ, hr, hf, hk⟩
  | scope x ih => intro n s n' h; simp [ccode] at h
  | label l => intro n s n' h; simp [ccode] at h
  | goto l => intro n s n' h; simp [ccode] at h
  | ret =>
    intro n s n' h st ex st' hc a w X μ hr hf hk
    simp only [ccode, Option.some.injEq, Prod.mk.injEq] at h
    obtain ⟨rfl, rfl⟩ := h
    simp only [acode, Option.some.injEq, Prod.mk.injEq] at hc
    obtain ⟨rfl, rfl⟩ := hc
    exact wp_ret ⟨rfl, X, μ, hr, hf, hk⟩
  | refuse q => intro n s n' h; simp [ccode] at h

theorem relist_lk (H : Heap) (f : Nat → Option Nat) : ∀ (L : List Nat) (n j : Nat), lk (relist H f n L) j = if n ≤ j then (L[j - n]?).bind fun i => (lk H i).map (AObj.ren f) else none
  | [], n, j => by simp [relist, lk]
  | i :: L, n, j => by
    have ih := relist_lk H f L (n + 1) j
    simp only [relist]
    by_cases hj : n = j
    · subst hj
      simp only [Nat.le_refl, if_true, Nat.sub_self, List.getElem?_cons_zero, Option.bind_some]
      cases hl : lk H i with
      | none => simp only [Option.map_none]; rw [ih, if_neg (by omega)]
      | some o => simp [lk]
    · have e : (if n ≤ j then ((i :: L)[j - n]?).bind fun i => (lk H i).map (AObj.ren f) else none) = if n + 1 ≤ j then (L[j - (n + 1)]?).bind fun i => (lk H i).map (AObj.ren f) else none := by
        by_cases h1 : n + 1 ≤ j
        · rw [if_pos h1, if_pos (by omega), show j - n = (j - (n + 1)) + 1 by omega]; rfl
        · rw [if_neg h1, if_neg (by omega)]
      rw [e, ← ih]
      cases hl : lk H i with
      | none => rfl
      | some o => simp only [lk, if_neg hj]

theorem living_at (lv : List Nat) : ∀ (σ : List AV) (n j : Nat) (x : AV), (living lv n σ)[j]? = some x → ∃ y, σ[j]? = some y ∧ (x = y ∨ x = .top)
  | [], n, j, x, h => by simp [living] at h
  | y :: σ, n, 0, x, h => by
    simp only [living, List.getElem?_cons_zero, Option.some.injEq] at h
    refine ⟨y, rfl, ?_⟩
    rw [← h]; split
    · exact .inl rfl
    · exact .inr rfl
  | y :: σ, n, j + 1, x, h => by
    simp only [living, List.getElem?_cons_succ] at h
    simpa using living_at lv σ (n + 1) j x h

theorem living_len (lv : List Nat) : ∀ (σ : List AV) (n : Nat), (living lv n σ).length = σ.length
  | [], _ => rfl
  | y :: σ, n => by simp [living, living_len lv σ (n + 1)]

theorem take_range {L : List Nat} {k : Nat} (h : L.take k = List.range k) {id : Nat} (hid : id < k) : L[id]? = some id := by
  have : (L.take k)[id]? = some id := by rw [h, List.getElem?_range hid]
  rw [List.getElem?_take, if_pos hid] at this
  exact this

/-- Other numbers for the objects. -/
theorem renumber {w0 : World} {X0 : Nat → Prop} {μ0 : Mu} {k : Nat} (h0 : ∀ id, μ0 id ≠ none → id < k) {st : ASt} {B : Nat} (hr : RelA w X μ a st B) (hf : Fr w0 X0 μ0 w X μ) {L : List Nat} (hn : L.Nodup) (hp : L.take k = List.range k) :
    Holds w X (subM L μ) (relist st.H (pos L) 0 L) ∧ (∀ j, subM L μ j ≠ none → j < L.length) ∧ Fr w0 X0 μ0 w X (subM L μ) ∧ (∀ {x : AV} {u : Value}, Rep w X μ x u → Rep w X (subM L μ) (x.ren (pos L)) u) := by
  have hsub : ∀ j m, subM L μ j = some m → ∃ id, L[j]? = some id ∧ μ id = some m := fun j m h => Option.bind_eq_some_iff.1 h
  have hmu : ∀ i j m, pos L i = some j → μ i = some m → subM L μ j = some m := by
    intro i j m h1 h2
    unfold subM; rw [pos_spec h1]; exact h2
  have hkeep : ∀ {x : AV} {u : Value}, Rep w X μ x u → Rep w X (subM L μ) (x.ren (pos L)) u := fun h => h.ren hmu
  refine ⟨⟨fun j m h => ?_, fun j m h => ?_, fun i j mi mj h1 h2 e => ?_, hr.H.lt⟩, fun j h => ?_, ⟨hf.os, hf.tape, hf.output, hf.size, hf.heap, hf.x1, hf.x2, fun id m h => ?_, fun j m h => ?_⟩, hkeep⟩
  · obtain ⟨id, _, h2⟩ := hsub j m h; exact hr.H.x id m h2
  · obtain ⟨id, h1, h2⟩ := hsub j m h
    obtain ⟨ob, hl, hob⟩ := hr.H.h id m h2
    refine ⟨ob.ren (pos L), by rw [relist_lk, if_pos (Nat.zero_le _), Nat.sub_zero, h1]; simp [hl], ?_⟩
    obtain ⟨c, hc, hs, hxx⟩ := hob.c
    refine ⟨hob.t, hob.sz, hob.box, hob.ver, by simp only [AObj.ren, List.length_map]; exact hob.n, hob.nc, hob.cm, hob.pos, c, hc, hs, fun i x hi => ?_⟩
    simp only [AObj.ren] at hi
    rw [List.getElem?_map] at hi
    obtain ⟨x0, hx0, rfl⟩ := Option.map_eq_some_iff.1 hi
    obtain ⟨q1, q2⟩ := hxx i x0 hx0
    refine ⟨by simpa using q1, fun j' y hy => ?_⟩
    rw [List.getElem?_map] at hy
    obtain ⟨y0, hy0, rfl⟩ := Option.map_eq_some_iff.1 hy
    obtain ⟨u, hu, q3, q4⟩ := q2 j' y0 hy0
    exact ⟨u, hu, q3, hkeep q4⟩
  · obtain ⟨i1, a1, a2⟩ := hsub i mi h1
    obtain ⟨i2, b1, b2⟩ := hsub j mj h2
    have := hr.H.inj _ _ _ _ a2 b2 e
    subst this
    have q1 := pos_of hn a1
    have q2 := pos_of hn b1
    rw [q1] at q2; cases q2; rfl
  · obtain ⟨m, hm⟩ := Option.ne_none_iff_exists'.1 h
    obtain ⟨id, h1, _⟩ := hsub j m hm
    exact (List.getElem?_eq_some_iff.1 h1).1
  · obtain ⟨m', h1, h2⟩ := hf.pin id m h
    have hid := h0 id (by rw [h]; simp)
    exact ⟨m', by unfold subM; rw [take_range hp hid]; exact h1, h2⟩
  · obtain ⟨id, _, h2⟩ := hsub j m h
    exact hf.new id m h2

theorem canon_sound {w0 : World} {X0 : Nat → Prop} {μ0 : Mu} {k : Nat} (h0 : ∀ id, μ0 id ≠ none → id < k) {st : ASt} (hr : RelA w X μ a st st.nxt) (hf : Fr w0 X0 μ0 w X μ) (hk : st.k = k) (lv : List Nat) :
    ∃ μ', RelA w X μ' a (canon lv st) (canon lv st).nxt ∧ Fr w0 X0 μ0 w X μ' ∧ (canon lv st).k = k := by
  unfold canon
  simp only []
  split
  · rename_i hc
    rw [hk] at hc ⊢
    obtain ⟨h1, h2, h3, h4⟩ := renumber h0 hr hf hc.1 hc.2
    refine ⟨_, ⟨⟨by simp [living_len, hr.σ.size], fun t x ht => ?_⟩, h1, fun j ob hj => ?_, h2, hr.d⟩, h3, rfl⟩
    · rw [List.getElem?_map] at ht
      obtain ⟨y, hy, rfl⟩ := Option.map_eq_some_iff.1 ht
      obtain ⟨z, hz, hzz⟩ := living_at lv _ _ _ _ hy
      obtain ⟨v, hv, hrv⟩ := hr.σ.v t z hz
      refine ⟨v, hv, ?_⟩
      rcases hzz with rfl | rfl
      · exact h4 hrv
      · simp only [AV.ren, renL_eq]; exact .top _
    · rw [relist_lk, if_pos (Nat.zero_le _), Nat.sub_zero] at hj
      obtain ⟨id, h5, _⟩ := Option.bind_eq_some_iff.1 hj
      exact (List.getElem?_eq_some_iff.1 h5).1
  · exact ⟨μ, hr, hf, hk⟩

theorem results_of (f : ResultVar → Sem Value) (tmps : Array Value) (hf : ∀ t, f (.tmp t) = pure (tmps.getD t undef)) (P : Program) (w : World) : ∀ (rs : List Nat), ((rs.map ResultVar.tmp).mapM f).run P w = .ok (rs.map fun t => tmps.getD t undef) w
  | [] => by simp
  | r :: rs => by
    have ih := results_of f tmps hf P w rs
    simp only [List.map_cons, List.mapM_cons, Sem.run_bind, hf, Sem.run_pure, Result.andThen_ok, ih]

theorem finish_sound {w0 : World} {X0 : Nat → Prop} {μ0 : Mu} {k : Nat} (h0 : ∀ id, μ0 id ≠ none → id < k) {st : ASt} (hr : RelA w X μ a st st.nxt) (hf : Fr w0 X0 μ0 w X μ) (hk : st.k = k) {fn : Func} {sf : SFun} (hres : fn.results.toList.mapM (fun | .tmp t => some t | _ => none) = some sf.res) {r : AV} {Hs : List AObj} (h : finish sf st = some (r, Hs)) :
    ∃ v μ', (results fn a.tmps).run P w = .ok v w ∧ Rep w X μ' r v ∧ Holds w X μ' (zipFrom 0 Hs) ∧ (∀ id m, μ' id = some m → id < Hs.length) ∧ Fr w0 X0 μ0 w X μ' := by
  unfold finish at h
  simp only [] at h
  split at h
  · rename_i hc
    split at h
    · rename_i os hos
      simp only [Option.some.injEq, Prod.mk.injEq] at h
      obtain ⟨rfl, rfl⟩ := h
      rw [hk] at hc
      obtain ⟨h1, h2, h3, h4⟩ := renumber h0 hr hf hc.1 hc.2
      obtain ⟨hl, hat⟩ := mapM_at hos
      rw [hk] at hl hat ⊢
      have hfr : fn.results = (sf.res.map ResultVar.tmp).toArray := by
        obtain ⟨l1, l2⟩ := mapM_at hres
        apply Array.toList_inj.1
        simp only [List.toList_toArray]
        apply List.ext_getElem?
        intro j
        rw [List.getElem?_map]
        cases hj : sf.res[j]? with
        | none => rw [List.getElem?_eq_none (by rw [l1]; exact List.getElem?_eq_none_iff.1 hj)]; rfl
        | some t =>
          obtain ⟨x, hx, he⟩ := l2 j t hj
          rw [hx]
          split at he
          · cases he; rfl
          · cases he
      have hval : ∀ t, Rep w X μ (st.σ.getD t .top) (a.tmps.getD t undef) := by
        intro t
        rw [List.getD_eq_getElem?_getD]
        cases ht : st.σ[t]? with
        | none => exact .top _
        | some x =>
          obtain ⟨v, hv, hrv⟩ := hr.σ.v t x ht
          simpa [hv] using hrv
      have hrun : (results fn a.tmps).run P w = .ok (if h : (sf.res.map fun t => a.tmps.getD t undef).length = 1 then (sf.res.map fun t => a.tmps.getD t undef)[0] else .tuple (sf.res.map fun t => a.tmps.getD t undef).toArray) w := by
        unfold results
        rw [hfr, Array.mapM_eq_mapM_toList]
        simp only [Sem.run_bind, Sem.run_map, List.toList_toArray, Sem.run_pure]
        rw [results_of _ a.tmps]
        · simp
        · intro t; rfl
      have hrep : Rep w X μ (result sf st.σ) (if h : (sf.res.map fun t => a.tmps.getD t undef).length = 1 then (sf.res.map fun t => a.tmps.getD t undef)[0] else .tuple (sf.res.map fun t => a.tmps.getD t undef).toArray) := by
        unfold result
        split
        · rename_i t ht
          simp only [ht, List.map_cons, List.map_nil, List.length_cons, List.length_nil, dite_true]
          exact hval t
        · rename_i hne
          rw [dif_neg (by
            intro e
            rw [List.length_map] at e
            match hs : sf.res, e with
            | [t], _ => exact hne t hs)]
          refine .tup (by simp) fun j c v hc hv => ?_
          rw [List.getElem?_map] at hc
          obtain ⟨t, ht, rfl⟩ := Option.map_eq_some_iff.1 hc
          simp [ht] at hv
          rw [← hv]
          simpa using hval t
      refine ⟨_, _, hrun, h4 hrep, ⟨h1.x, fun j m hj => ?_, h1.inj, h1.lt⟩, fun j m hj => ?_, h3⟩
      · obtain ⟨ob, hlk, hob⟩ := h1.h j m hj
        rw [relist_lk, if_pos (Nat.zero_le _), Nat.sub_zero] at hlk
        obtain ⟨id, h5, h6⟩ := Option.bind_eq_some_iff.1 hlk
        obtain ⟨ob0, h7, rfl⟩ := Option.map_eq_some_iff.1 h6
        refine ⟨_, ?_, hob⟩
        have hjl : j < os.length := by rw [← hl]; exact (List.getElem?_eq_some_iff.1 h5).1
        obtain ⟨id', h8, h9⟩ := hat j os[j] (List.getElem?_eq_getElem hjl)
        rw [h5] at h8; cases h8
        rw [h7] at h9; cases h9
        have := zip_lk (os.map (AObj.ren (pos (List.range k ++ closure st.H 3 (List.range k ++ ids 4 (result sf st.σ))).eraseDups))) 0 j (os[j].ren _) (by rw [List.getElem?_map, List.getElem?_eq_getElem hjl]; rfl)
        rwa [Nat.zero_add] at this
      · have := h2 j (by rw [hj]; simp)
        rw [List.length_map, ← hl]; exact this
    · cases h
  · cases h

theorem start_sound {fn : SFun} {as : List AV} {vs : Array Value} {Hs : List AObj} (hl : as.length = vs.size) (hrep : ∀ (j : Nat) (c : AV) (v : Value), as[j]? = some c → vs[j]? = some v → Rep w X μ c v) (hH : Holds w X μ (zipFrom 0 Hs)) (hlt : ∀ id m, μ id = some m → id < Hs.length) :
    RelA w X μ { tmps := vs ++ Array.replicate (fn.nt - vs.size) undef, defers := [] } (start fn as Hs) (start fn as Hs).nxt := by
  refine ⟨⟨by simp [start, hl], fun t x ht => ?_⟩, hH, fun k ob hk => ?_, fun k hk => ?_, rfl⟩
  · simp only [start] at ht
    by_cases h : t < as.length
    · rw [List.getElem?_append_left h] at ht
      have hv : t < vs.size := by omega
      exact ⟨vs[t], by rw [Array.getElem?_append_left hv, Array.getElem?_eq_getElem hv], hrep t x _ ht (Array.getElem?_eq_getElem hv)⟩
    · rw [List.getElem?_append_right (by omega), List.getElem?_replicate] at ht
      split at ht
      · rename_i h2
        cases ht
        exact ⟨undef, by rw [Array.getElem?_append_right (by omega), Array.getElem?_replicate, if_pos (by omega)], .top _⟩
      · cases ht
  · obtain ⟨h1, h2⟩ := lk_zip Hs 0 k ob hk
    have := (List.getElem?_eq_some_iff.1 h2).1
    simp at this
    exact this
  · obtain ⟨m, hm⟩ := Option.ne_none_iff_exists'.1 hk
    exact hlt k m hm

/-- The table is made of the program's functions. -/
def TOk (P : Program) (T : Nat → Option SFun) : Prop := ∀ f s, T f = some s → ∃ gr ann, cfun P gr ann f = some s

theorem run_sound (hmix : P.follows .mixedOrders = true) {T : Nat → Option SFun} (hT : TOk P T) : ∀ n, CSound P (runBoth T n).1 ∧ LSound P (runBoth T n).2
  | 0 => by
    refine ⟨fun g as Hs r Hs' h => ?_, ?_⟩
    · simp [runBoth] at h
    · intro w0 X0 μ0 k h0 gr ann c n s n' hcc lv st ex st' h
      simp [runBoth] at h
  | n + 1 => by
    obtain ⟨hC, hL⟩ := run_sound hmix hT n
    refine ⟨fun g as Hs r Hs' h => ?_, ?_⟩
    · simp only [runBoth] at h
      split at h
      · rename_i sf hsf
        obtain ⟨gr, ann, hcf⟩ := hT g sf hsf
        unfold cfun at hcf
        simp only [Option.bind_eq_bind, Option.bind_eq_some_iff] at hcf
        obtain ⟨fn, hfn, c, hbody, rs, hres, hcf⟩ := hcf
        split at hcf
        · cases hcf
        · rename_i hname
          split at hcf
          · rename_i s n' hcc
            cases hcf
            have main : ∀ ex st, acode (runBoth T n).1 (runBoth T n).2 s (start ⟨fn.ntmps, rs, s⟩ as Hs) = some (ex, st) → (ex = .normal ∨ ex = .ret) → finish ⟨fn.ntmps, rs, s⟩ st = some (r, Hs') →
                (∃ fn, P.funcs[g]? = some fn ∧ fn.body.isNone = false ∧ (fn.name == "runtime.NumGoroutine") = false) ∧ ∀ (w : World) (X : Nat → Prop) (μ : Mu) (vs : Array Value), as.length = vs.size → (∀ (j : Nat) (c : AV) (v : Value), as[j]? = some c → vs[j]? = some v → Rep w X μ c v) → Holds w X μ (zipFrom 0 Hs) → (∀ id m, μ id = some m → id < Hs.length) →
                CallOk P w X μ g vs r Hs' := by
              intro ex st hac hex hfin
              refine ⟨⟨fn, hfn, by rw [hbody]; rfl, by simpa using hname⟩, fun w X μ vs hl hrep hH hlt => ?_⟩
              have h0 : ∀ id, μ id ≠ none → id < Hs.length := fun id h => by
                obtain ⟨m, hm⟩ := Option.ne_none_iff_exists'.1 h
                exact hlt id m hm
              refine calls_of_wp hfn hbody (wp_mono (code_sound hC hL hmix (w0 := w) (X0 := X) (μ0 := μ) (k := Hs.length) h0 c 0 s n' hcc _ ex st hac _ w X μ (start_sound (fn := ⟨fn.ntmps, rs, s⟩) hl hrep hH hlt) .refl rfl) fun e a' w' ⟨he, X', μ', h1, h2, h3⟩ => ?_)
              obtain ⟨v, μ'', q1, q2, q3, q4, q5⟩ := finish_sound (P := P) (fn := fn) h0 h1 h2 h3 hres hfin
              subst he
              rcases hex with rfl | rfl
              · exact ⟨h1.d, v, q1, v, X', μ'', rfl, q2, q3, q4, q5⟩
              · exact ⟨h1.d, v, q1, v, X', μ'', rfl, q2, q3, q4, q5⟩
            split at h
            · rename_i st hac; exact main .normal st hac (.inl rfl) h
            · rename_i st hac; exact main .ret st hac (.inr rfl) h
            · cases h
          · cases hcf
      · cases h
    · intro w0 X0 μ0 k h0 gr ann c m s m' hcc lv st ex st' h a w X μ hr hf hk b q cs
      simp only [runBoth] at h
      obtain ⟨μ1, hr1, hf1, hk1⟩ := canon_sound h0 hr hf hk lv
      split at h
      · rename_i st1 hac
        obtain ⟨e, a1, w1, ⟨he, X2, μ2, k1, k2, k3⟩, harr⟩ := code_sound hC hL hmix h0 c m s m' hcc _ .normal st1 hac a w X μ1 hr1 hf1 hk1 b (.inLoop c :: q) cs
        subst he
        obtain ⟨e, a2, w2, h2, harr2⟩ := hL w0 X0 μ0 k h0 gr ann c m s m' hcc lv st1 ex st' h a1 w1 X2 μ2 k1 k2 k3 b q cs
        exact ⟨e, a2, w2, h2, .of_steps (Steps.trans harr (.one step_inLoop)) harr2⟩
      · rename_i r hne
        obtain ⟨e, a1, w1, ⟨he, X2, μ2, k1, k2, k3⟩, harr⟩ := code_sound hC hL hmix h0 c m s m' hcc _ ex st' h a w X μ1 hr1 hf1 hk1 b (.inLoop c :: q) cs
        subst he
        cases ex with
        | normal => exact absurd h (by intro e; exact hne _ e)
        | exit id => exact ⟨_, a1, w1, ⟨rfl, X2, μ2, k1, k2, k3⟩, .pass (x := .inLoop c) rfl (fun _ _ => .inl (by simp [AEx.out])) harr⟩
        | ret => exact ⟨_, a1, w1, ⟨rfl, X2, μ2, k1, k2, k3⟩, .pass (x := .inLoop c) rfl (fun _ _ => .inl (by simp [AEx.out])) harr⟩

end Go.Proofs.Ytlopfjipndhpfab.Lift
