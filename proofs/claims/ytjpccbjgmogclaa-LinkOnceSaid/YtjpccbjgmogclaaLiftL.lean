/- A reading of the program's code by values alone: calls that may turn what comes with them. -/
import Derived.Test.YtjpccbjgmogclaaLiftK
set_option linter.all false
set_option linter.unusedSimpArgs false
namespace Go.Proofs.Ytjpccbjgmogclaa.Lift
open Go Go.RowKit

variable {P : Program} {w : World} {X : Nat → Prop} {μ : Mu} {o : Oper} {a : Act} {base : Nat} {v : AV}

theorem lk_app (A B : Heap) (id : Nat) : lk (A ++ B) id = match lk A id with | some o => some o | none => lk B id := by
  induction A with
  | nil => rfl
  | cons p A ih =>
    obtain ⟨i, o⟩ := p
    simp only [List.cons_append, lk]
    by_cases h : i = id
    · simp [h]
    · simp only [if_neg h]; exact ih

theorem lk_zip_none (Hs : List AObj) (base id : Nat) (h : id < base ∨ base + Hs.length ≤ id) : lk (zipFrom base Hs) id = none := by
  cases hl : lk (zipFrom base Hs) id with
  | none => rfl
  | some ob =>
    obtain ⟨h1, h2⟩ := lk_zip Hs base id ob hl
    have := (List.getElem?_eq_some_iff.1 h2).1
    omega

theorem lk_hputs_out : ∀ (H : Heap) (G : List Nat) (os : List AObj) (id : Nat), ¬ id ∈ G → lk (hputs H G os) id = lk H id
  | H, [], os, id, h => by cases os <;> rfl
  | H, g :: G, [], id, h => rfl
  | H, g :: G, o :: os, id, h => by
    simp only [List.mem_cons, not_or] at h
    simp only [hputs]
    rw [lk_hputs_out _ G os id h.2, lk_hput, if_neg h.1]

theorem lk_hputs_in : ∀ (H : Heap) (G : List Nat) (os : List AObj) (id j : Nat) (o : AObj), G.Nodup → G[j]? = some id → os[j]? = some o → (lk H id).isSome = true → lk (hputs H G os) id = some o
  | H, [], os, id, j, o, _, h, _, _ => by simp at h
  | H, g :: G, [], id, j, o, _, _, h, _ => by simp at h
  | H, g :: G, o' :: os, id, 0, o, hn, h1, h2, h3 => by
    simp at h1 h2
    subst h1; subst h2
    simp only [hputs]
    rw [lk_hputs_out _ G os g (List.nodup_cons.1 hn).1, lk_hput, if_pos rfl]
    obtain ⟨x, hx⟩ := Option.isSome_iff_exists.1 h3
    rw [hx]; rfl
  | H, g :: G, o' :: os, id, j + 1, o, hn, h1, h2, h3 => by
    simp only [hputs]
    have hne : id ≠ g := fun e => by subst e; exact (List.nodup_cons.1 hn).1 (List.mem_of_getElem? (by simpa using h1))
    exact lk_hputs_in _ G os id j o (List.nodup_cons.1 hn).2 (by simpa using h1) (by simpa using h2) (by rw [lk_hput, if_neg hne]; exact h3)

theorem moved_spec : ∀ {G : List Nat} {os os' : List AObj} {j id : Nat}, G[j]? = some id → ¬ id ∈ moved G os os' → ∃ o o', os[j]? = some o ∧ os'[j]? = some o' ∧ o'.ver = o.ver
  | [], os, os', j, id, h, _ => by simp at h
  | g :: G, [], os', j, id, h, hn => by simp only [moved] at hn; exact absurd (List.mem_of_getElem? h) hn
  | g :: G, o :: os, [], j, id, h, hn => by simp only [moved] at hn; exact absurd (List.mem_of_getElem? h) hn
  | g :: G, o :: os, o' :: os', 0, id, h, hn => by
    simp at h; subst h
    simp only [moved, List.mem_append, not_or] at hn
    refine ⟨o, o', rfl, rfl, ?_⟩
    by_cases e : o'.ver = o.ver
    · exact e
    · rw [if_neg e] at hn; simp at hn
  | g :: G, o :: os, o' :: os', j + 1, id, h, hn => by
    simp only [moved, List.mem_append, not_or] at hn
    simpa using moved_spec (by simpa using h) hn.2

/-- The caller's objects behind a call. -/
def joinG (μ : Mu) (G : List Nat) (base n : Nat) (μc : Mu) : Mu := fun id => match pos G id with
  | some j => μc j
  | none => if base ≤ id ∧ id < base + n then μc (id - base + G.length) else μ id

/-- Behind a call: what is told of the caller's memory. -/
theorem call_core {st : ASt} (hH : Holds w X μ st.H) (hσ : RelS w X μ a st.σ) {Xc : Nat → Prop} {G : List Nat} {os : List AObj} {Hs : List AObj} {r : AV} (hnd : G.Nodup) (hGlk : ∀ {j id : Nat}, G[j]? = some id → ∃ ob, lk st.H id = some ob)
    (x1 : ∀ b, Xc b → X b) (hcase : roAny r Hs = false ∨ ∀ b, X b → Xc b) (hHc : Holds w Xc (subM G μ) (zipFrom 0 os)) (hfr2 : ∀ k ob, lk st.H k = some ob → k < base) (hfr3 : ∀ k, μ k ≠ none → k < base) (hsz : ¬ (Hs.length < G.length ∨ 64 < Hs.length - G.length))
    {w' : World} {Xc' : Nat → Prop} {μc' : Mu} {rv : Value} (hr : Rep w' Xc' μc' r rv) (hH' : Holds w' Xc' μc' (zipFrom 0 Hs)) (hlt' : ∀ id m, μc' id = some m → id < Hs.length) (hF : Fr w Xc (subM G μ) w' Xc' μc') :
    ∃ X' μ', Fr w X μ w' X' μ' ∧ RelS w' X' μ' a (behind st base G os Hs).σ ∧ Holds w' X' μ' (behind st base G os Hs).H ∧ Rep w' X' μ' (r.ren (backTo G base)) rv ∧ (∀ id, μ' id ≠ none → μ id ≠ none ∨ (∃ ob, lk st.H id = some ob) ∨ (base ≤ id ∧ id < base + 64)) := by
  have hk1 : G.length ≤ Hs.length := by omega
  have hk2 : Hs.length - G.length ≤ 64 := by omega
  have hGlt : ∀ {id : Nat}, id ∈ G → id < base := by
    intro id h
    obtain ⟨j, hj⟩ := List.getElem?_of_mem h
    obtain ⟨ob, hob⟩ := hGlk hj
    exact hfr2 id ob hob
  have hsub : ∀ j m, subM G μ j = some m → ∃ id, G[j]? = some id ∧ μ id = some m := by
    intro j m h
    unfold subM at h
    exact Option.bind_eq_some_iff.1 h
  -- numbers
  have jG : ∀ {id j : Nat}, pos G id = some j → joinG μ G base (Hs.length - G.length) μc' id = μc' j := by intro id j h; unfold joinG; rw [h]
  have jN : ∀ {id : Nat}, pos G id = none → base ≤ id ∧ id < base + (Hs.length - G.length) → joinG μ G base (Hs.length - G.length) μc' id = μc' (id - base + G.length) := by intro id h h2; unfold joinG; rw [h]; simp only []; rw [if_pos h2]
  have jO : ∀ {id : Nat}, pos G id = none → ¬ (base ≤ id ∧ id < base + (Hs.length - G.length)) → joinG μ G base (Hs.length - G.length) μc' id = μ id := by intro id h h2; unfold joinG; rw [h]; simp only []; rw [if_neg h2]
  have hnewnone : ∀ {id : Nat}, base ≤ id → pos G id = none := by
    intro id h
    cases hp : pos G id with
    | none => rfl
    | some j => have := hGlt (List.mem_of_getElem? (pos_spec hp)); omega
  have hmuR : ∀ i j m, backTo G base i = some j → μc' i = some m → joinG μ G base (Hs.length - G.length) μc' j = some m := by
    intro i j m h1 h2
    unfold backTo at h1
    split at h1
    · rename_i hi
      cases h1
      rw [jG (pos_of hnd (List.getElem?_eq_getElem hi))]; exact h2
    · rename_i hi
      cases h1
      have := hlt' i m h2
      rw [jN (hnewnone (by omega)) (by omega), show base + (i - G.length) - base + G.length = i by omega]
      exact h2
  have hsplit : (∀ b, X b → Xc b) ∨ (hasRO 504 r = false ∧ ∀ ob ∈ Hs, ∀ x ∈ ob.elems, ∀ c ∈ x, hasRO 503 c = false) := by
    rcases hcase with hro | h
    · right
      simp only [roAny, Bool.or_eq_false_iff] at hro
      refine ⟨hro.1, fun ob hob x hx c hc => ?_⟩
      have h2 := hro.2
      rw [List.any_eq_false] at h2
      have h3 : (ob.elems.any fun x => x.any (hasRO 503)) = false := Bool.eq_false_iff.2 (h2 ob hob)
      rw [List.any_eq_false] at h3
      have h4 : x.any (hasRO 503) = false := Bool.eq_false_iff.2 (h3 x hx)
      rw [List.any_eq_false] at h4
      exact Bool.eq_false_iff.2 (h4 c hc)
    · exact .inl h
  have mvR : ∀ {c : AV} {u : Value} {n : Nat}, Rep w' Xc' μc' c u → (hasRO n c = false ∨ ∀ b, X b → Xc b) → Rep w' (fun b => X b ∨ Xc' b) (joinG μ G base (Hs.length - G.length) μc') (c.ren (backTo G base)) u := by
    intro c u n hc hh
    refine Rep.ren ?_ hmuR
    rcases hh with hh | hh
    · exact hc.noRO hh
    · exact hc.move (Nat.le_refl _) (fun _ _ _ => rfl) (fun b _ hb => hb.elim (fun h => hF.x1 b (hH.lt b h) (hh b h)) (fun h => h)) (fun _ _ h => h)
  have keep : ∀ b, b < w.heap.size → ¬ X b → w'.heap[b]? = w.heap[b]? := fun b hb hx => hF.heap b hb (fun id m hm e => by
    obtain ⟨i, h1, h2⟩ := hsub id m hm
    exact hx (e ▸ hH.x i m h2))
  have hX' : ∀ b, b < w.heap.size → (X b ∨ Xc' b) → X b := fun b hb h => h.elim (fun h => h) (fun h => x1 b (hF.x2 b hb h))
  -- what stays
  have stays : ∀ {id : Nat} {m : MI}, μ id = some m → ¬ id ∈ moved G os Hs → joinG μ G base (Hs.length - G.length) μc' id = some m := by
    intro id m hm hn
    cases hp : pos G id with
    | none => rw [jO hp (fun h => by have := hfr3 id (by rw [hm]; simp); omega)]; exact hm
    | some j =>
      have hj := pos_spec hp
      obtain ⟨o1, o2, h1, h2, h3⟩ := moved_spec hj hn
      have hsm : subM G μ j = some m := by unfold subM; rw [hj]; exact hm
      obtain ⟨m', hm', _, hpin⟩ := hF.pin j m hsm
      rw [jG hp]
      obtain ⟨ob1, hl1, hob1⟩ := hHc.h j m hsm
      obtain ⟨ob2, hl2, hob2⟩ := hH'.h j m' hm'
      have e1 := (lk_zip os 0 j ob1 hl1).2
      have e2 := (lk_zip Hs 0 j ob2 hl2).2
      simp only [Nat.sub_zero] at e1 e2
      rw [h1] at e1; cases e1
      rw [h2] at e2; cases e2
      rw [hm', hpin (by rw [← hob2.ver, h3, hob1.ver])]
  have mvO : ∀ {y : AV} {u : Value}, Rep w X μ y u → Rep w' (fun b => X b ∨ Xc' b) (joinG μ G base (Hs.length - G.length) μc') (y.ren (dropL (moved G os Hs))) u := by
    intro y u h
    have h1 : Rep w X (fun id => if (moved G os Hs).contains id then none else μ id) (y.ren (dropL (moved G os Hs))) u := h.ren fun i j m e hm => by
      unfold dropL at e
      split at e
      · cases e
      · rename_i hne
        cases e
        rw [if_neg hne]; exact hm
    refine h1.move hF.size keep hX' (fun id m hm => ?_)
    split at hm
    · cases hm
    · rename_i hne
      exact stays hm (by simpa using hne)
  have hobj : ∀ {ob : AObj} {m : MI}, ob ∈ Hs → HObj w' Xc' μc' ob m → HObj w' (fun b => X b ∨ Xc' b) (joinG μ G base (Hs.length - G.length) μc') (ob.ren (backTo G base)) m := by
    intro ob m hmem h
    obtain ⟨c, hc, hs', hxx⟩ := h.c
    refine ⟨h.t, h.sz, h.box, h.ver, by simp only [AObj.ren, List.length_map]; exact h.n, h.nc, h.cm, h.pos, c, hc, hs', fun i x hi => ?_⟩
    simp only [AObj.ren] at hi
    rw [List.getElem?_map] at hi
    obtain ⟨x0, hx0, rfl⟩ := Option.map_eq_some_iff.1 hi
    obtain ⟨q1, q2⟩ := hxx i x0 hx0
    refine ⟨by simpa using q1, fun j y hy => ?_⟩
    rw [List.getElem?_map] at hy
    obtain ⟨y0, hy0, rfl⟩ := Option.map_eq_some_iff.1 hy
    obtain ⟨u, hu, q3, q4⟩ := q2 j y0 hy0
    refine ⟨u, hu, q3, ?_⟩
    rcases hsplit with hh | hh
    · exact mvR (n := 503) q4 (.inr hh)
    · exact mvR (n := 503) q4 (.inl (hh.2 ob hmem x0 (List.mem_of_getElem? hx0) y0 (List.mem_of_getElem? hy0)))
  -- where a number of the caller's comes from
  have cases3 : ∀ {id : Nat} {m : MI}, joinG μ G base (Hs.length - G.length) μc' id = some m →
      (∃ j, pos G id = some j ∧ μc' j = some m) ∨ (pos G id = none ∧ base ≤ id ∧ id < base + (Hs.length - G.length) ∧ μc' (id - base + G.length) = some m) ∨ (pos G id = none ∧ ¬ (base ≤ id ∧ id < base + (Hs.length - G.length)) ∧ μ id = some m) := by
    intro id m h
    cases hp : pos G id with
    | some j => rw [jG hp] at h; exact .inl ⟨j, rfl, h⟩
    | none =>
      by_cases hr : base ≤ id ∧ id < base + (Hs.length - G.length)
      · rw [jN hp hr] at h; exact .inr (.inl ⟨rfl, hr.1, hr.2, h⟩)
      · rw [jO hp hr] at h; exact .inr (.inr ⟨rfl, hr, h⟩)
  have fromC : ∀ {j : Nat} {m : MI}, μc' j = some m → w.heap.size ≤ m.b ∨ ∃ id m0, id ∈ G ∧ μ id = some m0 ∧ m0.b = m.b := by
    intro j m h
    refine (hF.new j m h).imp (fun h => h) (fun ⟨m0, h1, h2⟩ => ?_)
    obtain ⟨id, q1, q2⟩ := hsub j m0 h1
    exact ⟨id, m0, List.mem_of_getElem? q1, q2, h2⟩
  have apartO : ∀ {id j : Nat} {m mc : MI}, pos G id = none → μ id = some m → μc' j = some mc → mc.b ≠ m.b := by
    intro id j m mc hp hm hj e
    rcases fromC hj with h | ⟨id', m0, h1, h2, h3⟩
    · have := hH.lt _ (hH.x id m hm); omega
    · have := hH.inj _ _ _ _ h2 hm (h3.trans e)
      subst this
      exact pos_none hp h1
  have hFr : Fr w X μ w' (fun b => X b ∨ Xc' b) (joinG μ G base (Hs.length - G.length) μc') := by
    refine ⟨hF.os, hF.tape, hF.output, hF.size, fun b hb hn => hF.heap b hb (fun i m hm e => ?_), fun b _ h => .inl h, hX', fun id m hm => ?_, fun id m hm => ?_⟩
    · obtain ⟨id, q1, q2⟩ := hsub i m hm
      exact hn id m q2 e
    · cases hp : pos G id with
      | some j =>
        rw [jG hp]
        exact hF.pin j m (by unfold subM; rw [pos_spec hp]; exact hm)
      | none => exact ⟨m, by rw [jO hp (fun h => by have := hfr3 id (by rw [hm]; simp); omega)]; exact hm, Nat.le_refl _, fun _ => rfl⟩
    · rcases cases3 hm with ⟨j, hp, h⟩ | ⟨hp, h1, h2, h⟩ | ⟨_, _, h⟩
      · refine (hF.new j m h).imp (fun h => h) (fun ⟨m0, h1, h2⟩ => ?_)
        obtain ⟨id', q1, q2⟩ := hsub j m0 h1
        have := pos_spec hp
        rw [q1] at this; cases this
        exact ⟨m0, q2, h2⟩
      · refine (hF.new _ m h).imp (fun h => h) (fun ⟨m0, q1, _⟩ => ?_)
        obtain ⟨id', q3, _⟩ := hsub _ m0 q1
        have := (List.getElem?_eq_some_iff.1 q3).1
        omega
      · exact .inr ⟨m, h, rfl⟩
  refine ⟨_, _, hFr, ⟨by simpa [behind] using hσ.size, fun t' x' hx' => ?_⟩, ⟨fun id m hm => ?_, fun id m hm => ?_, fun i j mi mj h1 h2 e => ?_, fun b hb => ?_⟩, ?_, fun id h => ?_⟩
  · simp only [behind] at hx'
    rw [List.getElem?_map] at hx'
    obtain ⟨x0, hx0, rfl⟩ := Option.map_eq_some_iff.1 hx'
    obtain ⟨q, hq, hrq⟩ := hσ.v t' x0 hx0
    exact ⟨q, hq, mvO hrq⟩
  · rcases cases3 hm with ⟨j, _, h⟩ | ⟨_, _, _, h⟩ | ⟨_, _, h⟩
    · exact .inr (hH'.x j m h)
    · exact .inr (hH'.x _ m h)
    · exact .inl (hH.x id m h)
  · rcases cases3 hm with ⟨j, hp, h⟩ | ⟨hp, hb1, hb2, h⟩ | ⟨hp, hnr, h⟩
    · obtain ⟨ob, hlk, hob⟩ := hH'.h j m h
      have hget := (lk_zip Hs 0 j ob hlk).2
      simp only [Nat.sub_zero] at hget
      have hjG := pos_spec hp
      have hjl : j < G.length := (List.getElem?_eq_some_iff.1 hjG).1
      refine ⟨ob.ren (backTo G base), ?_, hobj (List.mem_of_getElem? hget) hob⟩
      simp only [behind]
      rw [lk_app, lk_zip_none _ _ _ (.inl (hGlt (List.mem_of_getElem? hjG)))]
      simp only []
      refine lk_hputs_in _ G _ id j _ hnd hjG ?_ ?_
      · rw [List.getElem?_map, List.getElem?_take, if_pos hjl, hget]; rfl
      · obtain ⟨ob0, hob0⟩ := hGlk hjG
        rw [lk_map, hob0]; rfl
    · obtain ⟨ob, hlk, hob⟩ := hH'.h _ m h
      have hget := (lk_zip Hs 0 _ ob hlk).2
      simp only [Nat.sub_zero] at hget
      refine ⟨ob.ren (backTo G base), ?_, hobj (List.mem_of_getElem? hget) hob⟩
      have := zip_lk ((Hs.drop G.length).map (AObj.ren (backTo G base))) base (id - base) (ob.ren (backTo G base)) (by
        rw [List.getElem?_map, List.getElem?_drop, show G.length + (id - base) = id - base + G.length by omega, hget]; rfl)
      rw [show base + (id - base) = id by omega] at this
      simp only [behind]
      rw [lk_app, this]
    · obtain ⟨ob, hlk, hob⟩ := hH.h id m h
      refine ⟨ob.ren (dropL (moved G os Hs)), ?_, ?_⟩
      · simp only [behind]
        rw [lk_app, lk_zip_none _ _ _ (.inl (hfr2 id ob hlk))]
        simp only []
        rw [lk_hputs_out _ _ _ _ (pos_none hp), lk_map, hlk]; rfl
      · obtain ⟨c, hc, hs', hxx⟩ := hob.c
        have hblk : w'.heap[m.b]? = w.heap[m.b]? := hF.heap m.b (hH.lt _ (hH.x id m h)) (fun i m0 h0 e => by
          obtain ⟨id', q1, q2⟩ := hsub i m0 h0
          have := hH.inj _ _ _ _ q2 h e
          subst this
          exact pos_none hp (List.mem_of_getElem? q1))
        refine ⟨hob.t, hob.sz, hob.box, hob.ver, by simp only [AObj.ren, List.length_map]; exact hob.n, hob.nc, hob.cm, hob.pos, c, hc.eq hblk, hs', fun i x hi => ?_⟩
        simp only [AObj.ren] at hi
        rw [List.getElem?_map] at hi
        obtain ⟨x0, hx0, rfl⟩ := Option.map_eq_some_iff.1 hi
        obtain ⟨q1, q2⟩ := hxx i x0 hx0
        refine ⟨by simpa using q1, fun j y hy => ?_⟩
        rw [List.getElem?_map] at hy
        obtain ⟨y0, hy0, rfl⟩ := Option.map_eq_some_iff.1 hy
        obtain ⟨u, hu, q3, q4⟩ := q2 j y0 hy0
        exact ⟨u, hu, q3, mvO q4⟩
  · rcases cases3 h1 with ⟨j1, hp1, q1⟩ | ⟨hp1, b1, b1', q1⟩ | ⟨hp1, nr1, q1⟩ <;> rcases cases3 h2 with ⟨j2, hp2, q2⟩ | ⟨hp2, b2, b2', q2⟩ | ⟨hp2, nr2, q2⟩
    · have := hH'.inj _ _ _ _ q1 q2 e
      subst this
      have a1 := pos_spec hp1
      have a2 := pos_spec hp2
      rw [a1] at a2; cases a2; rfl
    · have := hH'.inj _ _ _ _ q1 q2 e
      have := (List.getElem?_eq_some_iff.1 (pos_spec hp1)).1
      omega
    · exact absurd e (apartO hp2 q2 q1)
    · have := hH'.inj _ _ _ _ q1 q2 e
      have := (List.getElem?_eq_some_iff.1 (pos_spec hp2)).1
      omega
    · have := hH'.inj _ _ _ _ q1 q2 e
      omega
    · exact absurd e (apartO hp2 q2 q1)
    · exact absurd e.symm (apartO hp1 q1 q2)
    · exact absurd e.symm (apartO hp1 q1 q2)
    · exact hH.inj _ _ _ _ q1 q2 e
  · exact hb.elim (fun h => Nat.lt_of_lt_of_le (hH.lt b h) hF.size) (fun h => hH'.lt b h)
  · rcases hsplit with hh | hh
    · exact mvR (n := 504) hr (.inr hh)
    · exact mvR (n := 504) hr (.inl hh.1)
  · obtain ⟨m, hm⟩ := Option.ne_none_iff_exists'.1 h
    rcases cases3 hm with ⟨j, hp, _⟩ | ⟨_, b1, b2, _⟩ | ⟨_, _, q⟩
    · exact .inr (.inl (hGlk (pos_spec hp)))
    · exact .inr (.inr ⟨b1, by omega⟩)
    · exact .inl (by rw [q]; simp)

theorem lk_filter (q : Nat → Bool) : ∀ (H : Heap) (id : Nat), lk (H.filter fun p => q p.1) id = if q id = true then lk H id else none
  | [], id => by simp [lk]
  | (i, o) :: t, id => by
    have ih := lk_filter q t id
    by_cases hq : q i = true
    · rw [List.filter_cons_of_pos (by simpa using hq)]
      simp only [lk]
      by_cases h : i = id
      · subst h; simp [hq]
      · simp only [if_neg h]; exact ih
    · rw [List.filter_cons_of_neg (by simpa using hq), ih]
      by_cases h : i = id
      · subst h; simp [hq]
      · simp only [lk, if_neg h]

def lessM (L : List Nat) (μ : Mu) : Mu := fun id => if L.contains id = true then none else μ id

theorem fz_rep {L : List Nat} {g : AV → AV} {X2 : Nat → Prop} (hX2 : ∀ b, X2 b → X b) {x : AV} {u : Value} (h : Rep w X μ x u) :
    (∀ {y : AV} {v : Value}, Rep w X μ y v → Rep w X2 mu0 (g y) v) → Rep w X2 (lessM L μ) (x.fz L g) u := by
  induction h with
  | top v => intros; simp only [AV.fz]; exact .top v
  | bool b => intros; simp only [AV.fz]; exact .bool b
  | int k n => intros; simp only [AV.fz]; exact .int k n
  | str s => intros; simp only [AV.fz]; exact .str s
  | agg hl h ih =>
    intro hg; simp only [AV.fz, fzL_eq]
    refine .agg (by simpa using hl) fun j c v hc hv => ?_
    rw [List.getElem?_map] at hc
    obtain ⟨c0, hc0, rfl⟩ := Option.map_eq_some_iff.1 hc
    exact ih j c0 v hc0 hv hg
  | tup hl h ih =>
    intro hg; simp only [AV.fz, fzL_eq]
    refine .tup (by simpa using hl) fun j c v hc hv => ?_
    rw [List.getElem?_map] at hc
    obtain ⟨c0, hc0, rfl⟩ := Option.map_eq_some_iff.1 hc
    exact ih j c0 v hc0 hv hg
  | nilP => intros; simp only [AV.fz]; exact .nilP
  | nilS => intros; simp only [AV.fz]; exact .nilS
  | emp => intros; simp only [AV.fz]; exact .emp
  | nilF => intros; simp only [AV.fz]; exact .nilF
  | nilI => intros; simp only [AV.fz]; exact .nilI
  | @ref μ id m h i o =>
    intro hg; simp only [AV.fz]
    split
    · exact (hg (.ref h i o)).of0
    · rename_i hn; exact .ref (by unfold lessM; rw [if_neg hn]; exact h) i o
  | rref vs hX hlt hv ho hr ih => intros; simp only [AV.fz]; exact (Rep.rref vs (fun h => hX (hX2 _ h)) hlt hv ho (fun j c hc => (hr j c hc).move (Nat.le_refl _) (fun _ _ _ => rfl) (fun b _ hb => hX2 b hb) (fun _ _ h => h)))
  | roE h => intros; simp only [AV.fz]; exact .roE h
  | ro vs hn hX hlt hc hf hz hv ho hr ih => intros; simp only [AV.fz]; exact .ro vs hn (fun h => hX (hX2 _ h)) hlt hc hf hz hv ho (fun i x j c hi hj => (hr i x j c hi hj).move (Nat.le_refl _) (fun _ _ _ => rfl) (fun b _ hb => hX2 b hb) (fun _ _ h => h))
  | @own μ id m lo len off cap h hb hn hc ho =>
    intro hg; simp only [AV.fz]
    split
    · exact (hg (.own h hb hn hc ho)).of0
    · rename_i hq; exact .own (by unfold lessM; rw [if_neg hq]; exact h) hb hn hc ho
  | @own0 μ id lo A =>
    intro hg; simp only [AV.fz]
    split
    · exact (hg .own0).of0
    · exact .own0
  | @rl μ id lo off cap m h hb hn hc ho =>
    intro hg; simp only [AV.fz]
    split
    · exact .top _
    · rename_i hq; exact .rl (by unfold lessM; rw [if_neg hq]; exact h) hb hn hc ho
  | fn hl hm h h' ih ih' =>
    intro hg; simp only [AV.fz, fzL_eq]
    refine .fn (by simpa using hl) (by simpa using hm) (fun j c v hc hv => ?_) (fun j c v hc hv => ?_)
    · rw [List.getElem?_map] at hc
      obtain ⟨c0, hc0, rfl⟩ := Option.map_eq_some_iff.1 hc
      exact ih j c0 v hc0 hv hg
    · rw [List.getElem?_map] at hc
      obtain ⟨c0, hc0, rfl⟩ := Option.map_eq_some_iff.1 hc
      exact ih' j c0 v hc0 hv hg
  | ifc h ih => intro hg; simp only [AV.fz]; exact .ifc (ih hg)

/-- What is lent is only read from here on. -/
theorem freeze_ok {st : ASt} (hH : Holds w X μ st.H) (hσ : RelS w X μ a st.σ) {L : List Nat} (hL : ∀ i, L.contains i = true → st.k ≤ i) :
    RelS w (keptX L μ X) (lessM L μ) a (freeze L st).σ ∧ Holds w (keptX L μ X) (lessM L μ) (freeze L st).H ∧ FrK st.k w X μ w (keptX L μ X) (lessM L μ) := by
  have hO : Objs w X μ st.H := fun id ob m h1 h2 => by
    obtain ⟨ob', h3, h4⟩ := hH.h id m h2
    rw [h1] at h3; cases h3; exact h4
  have hX2 : ∀ b, keptX L μ X b → X b := fun b h => h.1
  have hg : ∀ {y : AV} {v : Value}, Rep w X μ y v → Rep w (keptX L μ X) mu0 (clo (others st.H L) 504 st.H y) v := fun h => clo_rep hO hX2 kept_not 504 h
  have hless : ∀ id m, lessM L μ id = some m → L.contains id = false ∧ μ id = some m := by
    intro id m h
    unfold lessM at h
    split at h
    · cases h
    · rename_i hn; exact ⟨Bool.eq_false_iff.2 hn, h⟩
  refine ⟨⟨by simpa [freeze] using hσ.size, fun t x hx => ?_⟩, ⟨fun id m hm => ?_, fun id m hm => ?_, fun i j mi mj h1 h2 e => hH.inj i j mi mj (hless i mi h1).2 (hless j mj h2).2 e, fun b hb => hH.lt b hb.1⟩, fun w0 X0 μ0 hd hf => ⟨hf.os, hf.tape, hf.output, hf.size, hf.heap, fun b hb hx => ⟨hf.x1 b hb hx, fun id m hm hc e => ?_⟩, fun b hb hx => hf.x2 b hb hx.1, fun id m hm => ?_, fun id m hm => hf.new id m (hless id m hm).2⟩⟩
  · simp only [freeze] at hx
    rw [List.getElem?_map] at hx
    obtain ⟨x0, hx0, rfl⟩ := Option.map_eq_some_iff.1 hx
    obtain ⟨q, hq, hrq⟩ := hσ.v t x0 hx0
    exact ⟨q, hq, fz_rep hX2 hrq hg⟩
  · obtain ⟨h1, h2⟩ := hless id m hm
    refine ⟨hH.x id m h2, fun id' m' h3 h4 e => ?_⟩
    have := hH.inj _ _ _ _ h3 h2 e
    subst this
    rw [h1] at h4; cases h4
  · obtain ⟨h1, h2⟩ := hless id m hm
    obtain ⟨ob, hl, hob⟩ := hH.h id m h2
    refine ⟨ob.fz L (clo (others st.H L) 504 st.H), ?_, hob.re (g := fun c => c.fz L (clo (others st.H L) 504 st.H)) (fun y u hy => fz_rep hX2 hy hg) rfl⟩
    simp only [freeze]
    rw [lk_map, lk_filter (fun i => !L.contains i), if_pos (by rw [h1]; rfl), hl]; rfl
  · subst e
    rcases hf.new id m hm with h | ⟨m0, h, _⟩
    · omega
    · have := hd id (by rw [h]; simp)
      have := hL id hc
      omega
  · obtain ⟨m', h1, h2⟩ := hf.pin id m hm
    refine ⟨m', ?_, h2⟩
    unfold lessM
    rw [if_neg ?_]
    · exact h1
    · intro hc
      have := hd id (by rw [hm]; simp)
      have := hL id hc
      omega

theorem l_call {C : FT} (hC : CSound P C) {st : ASt} (hH : Holds w X μ st.H) (hσ : RelS w X μ a st.σ) {c : Call} (ho : o.op = .call c) {cf : SCallee} (hc : CalleeOk P c.callee cf)
    {ss : List SOpd} (hs : cargs P c.argTypes.toList c.args.toList = some ss) {g : Nat} {as bs as' : List AV} (he : target st.σ cf = some (g, as, bs)) {mode : Nat} {L : List Nat} {G : List Nat} {os : List AObj} (hargs : callArgs st.H mode (as ++ evs st.σ ss ++ bs) = some (as', G, os, L)) {r : AV} {Hs : List AObj}
    (hfr2 : ∀ k ob, lk st.H k = some ob → k < base) (hfr3 : ∀ k, μ k ≠ none → k < base)
    (hcall : C g as' os = some (r, Hs)) (hsz : ¬ (Hs.length < G.length ∨ 64 < Hs.length - G.length)) {st' : ASt} (hst : ((!L.isEmpty && roAny r Hs) = false ∧ st' = behind st base G os Hs) ∨ ((∀ i, L.contains i = true → st.k ≤ i) ∧ st' = behind (freeze L st) base G os Hs)) :
    Turns P o a w X μ st.H base (r.ren (backTo G base)) st' := by
  intro K Q hk
  have hO : Objs w X μ st.H := fun id ob m h1 h2 => by
    obtain ⟨ob', h3, h4⟩ := hH.h id m h2
    rw [h1] at h3; cases h3; exact h4
  obtain ⟨vs, hl, hrep, hrun⟩ := call_enter (P := P) hσ ho hc hs he
  have hA := callArgs_spec hargs
  obtain ⟨hlen, hrep', hHc, hsl, hol, hos⟩ := args_ok hA hO hH.x hH.inj hH.lt hrep
  obtain ⟨hfn, hcs⟩ := hC g _ _ r Hs hcall
  have hok := hcs w (keptX L μ X) (subM G μ) vs (by rw [hlen, hl]) hrep' hHc hsl
  refine wp_enter (hrun hfn) (R := fun v w' => ∃ X' μ', Rep w' X' μ' r v ∧ Holds w' X' μ' (zipFrom 0 Hs) ∧ (∀ id m, μ' id = some m → id < Hs.length) ∧ Fr w (keptX L μ X) (subM G μ) w' X' μ') (Calls.mono hok fun e w' ⟨v, X', μ', h1, h2, h3, h4, h5⟩ => ⟨v, h1, X', μ', h2, h3, h4, h5⟩) ?_
  intro rv w' ⟨Xc', μc', hr, hH', hlt', hF⟩
  have hGlk : ∀ {j id : Nat}, G[j]? = some id → ∃ ob, lk st.H id = some ob := by
    intro j id hj
    have hjl : j < os.length := by rw [hol]; exact (List.getElem?_eq_some_iff.1 hj).1
    obtain ⟨id', ob, h1, h2, _⟩ := hos j _ (List.getElem?_eq_getElem hjl)
    rw [hj] at h1; cases h1
    exact ⟨ob, h2⟩
  rcases hst with ⟨hro, rfl⟩ | ⟨hL, rfl⟩
  · obtain ⟨X', μ', f1, f2, f3, f4, f5⟩ := call_core (base := base) hH hσ (Xc := keptX L μ X) (G := G) (os := os) (Hs := Hs) (r := r) hA.nodup hGlk (fun b h => h.1) (by
      simp only [Bool.and_eq_false_iff, Bool.not_eq_false'] at hro
      refine hro.symm.imp (fun h => h) (fun h => ?_)
      have := List.isEmpty_iff.1 h
      subst this
      exact kept_nil) hHc hfr2 hfr3 hsz hr hH' hlt' hF
    exact hk rv w' X' μ' f1.toK f2 f3 f4 f5
  · obtain ⟨z1, z2, z3⟩ := freeze_ok hH hσ hL
    have hsubM : subM G (lessM L μ) = subM G μ := by
      funext j
      unfold subM
      cases hj : G[j]? with
      | none => rfl
      | some id =>
        simp only [Option.bind_some]
        unfold lessM
        rw [if_neg (fun hc => hA.disj id hc (List.mem_of_getElem? hj))]
    have hlkf : ∀ k ob, lk (freeze L st).H k = some ob → ∃ ob', lk st.H k = some ob' := by
      intro k ob h
      simp only [freeze] at h
      rw [lk_map] at h
      obtain ⟨ob', h', _⟩ := Option.map_eq_some_iff.1 h
      rw [lk_filter (fun i => !L.contains i)] at h'
      split at h'
      · exact ⟨ob', h'⟩
      · cases h'
    obtain ⟨X', μ', f1, f2, f3, f4, f5⟩ := call_core (base := base) z2 z1 (Xc := keptX L μ X) (G := G) (os := os) (Hs := Hs) (r := r) hA.nodup (fun {j id} hj => by
      obtain ⟨ob, hob⟩ := hGlk hj
      refine ⟨ob.fz L (clo (others st.H L) 504 st.H), ?_⟩
      simp only [freeze]
      rw [lk_map, lk_filter (fun i => !L.contains i), if_pos, hob]
      · rfl
      · simp only [Bool.not_eq_true']
        exact Bool.eq_false_iff.2 (fun hc => hA.disj id hc (List.mem_of_getElem? hj))) (fun b h => h) (.inr fun b h => h) (by rw [hsubM]; exact hHc) (fun k ob h => by
        obtain ⟨ob', h'⟩ := hlkf k ob h
        exact hfr2 k ob' h') (fun k h => hfr3 k (fun e => h (by unfold lessM; split <;> simp [e]))) hsz hr hH' hlt' (by rw [hsubM]; exact hF)
    refine hk rv w' X' μ' (z3.trans f1.toK) f2 f3 f4 fun id h => ?_
    rcases f5 id h with h1 | ⟨ob, h1⟩ | h1
    · exact .inl (fun e => h1 (by unfold lessM; split <;> simp [e]))
    · exact .inr (.inl (hlkf id ob h1))
    · exact .inr (.inr h1)

/-- A call whose result's rows are only read, and which may hand out what was lent. -/
theorem l_callF {C : FT} (hC : CSound P C) {st : ASt} (hH : Holds w X μ st.H) (hσ : RelS w X μ a st.σ) {c : Call} (ho : o.op = .call c) {cf : SCallee} (hc : CalleeOk P c.callee cf)
    {ss : List SOpd} (hs : cargs P c.argTypes.toList c.args.toList = some ss) {g : Nat} {as bs as' : List AV} (he : target st.σ cf = some (g, as, bs)) {mode : Nat} {L : List Nat} (hargs : callArgs st.H mode (as ++ evs st.σ ss ++ bs) = some (as', [], [], L)) {r : AV} {Hs : List AObj}
    (hcall : C g as' [] = some (r, Hs)) (hL : ∀ i, L.contains i = true → st.k ≤ i) :
    Turns P o a w X μ st.H base (clo [] 504 (zipFrom 0 Hs) r) (freeze L st) := by
  intro K Q hk
  have hO : Objs w X μ st.H := fun id ob m h1 h2 => by
    obtain ⟨ob', h3, h4⟩ := hH.h id m h2
    rw [h1] at h3; cases h3; exact h4
  obtain ⟨vs, hl, hrep, hrun⟩ := call_enter (P := P) hσ ho hc hs he
  obtain ⟨hlen, hrep', hHc, hsl, _, _⟩ := args_ok (callArgs_spec hargs) hO hH.x hH.inj hH.lt hrep
  have hmu : subM [] μ = mu0 := by funext j; simp [subM, mu0]
  rw [hmu] at hrep' hHc hsl
  obtain ⟨hfn, hcs⟩ := hC g _ _ r Hs hcall
  have hok := hcs w (keptX L μ X) mu0 vs (by rw [hlen, hl]) hrep' hHc hsl
  refine wp_enter (hrun hfn) (R := fun v w' => ∃ X' μ', Rep w' X' μ' r v ∧ Holds w' X' μ' (zipFrom 0 Hs) ∧ (∀ id m, μ' id = some m → id < Hs.length) ∧ Fr w (keptX L μ X) mu0 w' X' μ') (Calls.mono hok fun e w' ⟨v, X', μ', h1, h2, h3, h4, h5⟩ => ⟨v, h1, X', μ', h2, h3, h4, h5⟩) ?_
  intro v w' ⟨Xc', μc', h2, h3, h4, h5⟩
  obtain ⟨z1, z2, z3⟩ := freeze_ok hH hσ hL
  have hext : Ext w (keptX L μ X) (lessM L μ) w' (keptX L μ X) (lessM L μ) := ⟨h5.os, h5.tape, h5.output, h5.size, fun b hb => h5.heap b hb (fun id m h => by cases h), fun _ h => h, fun _ _ h => h, fun _ h => .inl h, fun _ _ h => h, fun _ _ h => .inl h⟩
  refine hk v w' (keptX L μ X) (lessM L μ) (z3.trans hext.toK) ⟨z1.size, fun t x ht => let ⟨u, q1, q2⟩ := z1.v t x ht; ⟨u, q1, hext.rep q2⟩⟩ ⟨z2.x, fun id m hm => let ⟨ob, q1, q2⟩ := z2.h id m hm; ⟨ob, q1, hext.obj q2⟩, z2.inj, fun b hb => Nat.lt_of_lt_of_le (z2.lt b hb) hext.size⟩
    (clo_back (X2 := keptX L μ X) h2 h3 h5 (fun b hb => hH.lt b hb.1) (.inl fun b h => h)).of0 (fun id h => .inl (fun e => h (by unfold lessM; split <;> simp [e])))

theorem loud_callF_inv {C : FT} {st st' : ASt} {cf : SCallee} {mode : Nat} {ss : List SOpd} (h : loud C st base (.callF cf mode ss) = some (v, st')) :
    ∃ g as bs as' L r Hs, target st.σ cf = some (g, as, bs) ∧ callArgs st.H mode (as ++ evs st.σ ss ++ bs) = some (as', [], [], L) ∧ L.isEmpty = false ∧ C g as' [] = some (r, Hs) ∧ roAny r Hs = true ∧ v = clo [] 504 (zipFrom 0 Hs) r ∧ (∀ i, L.contains i = true → st.k ≤ i) ∧ st' = freeze L st := by
  simp only [loud] at h
  split at h
  · rename_i g as bs he
    split at h
    · rename_i as' L hargs
      split at h
      · cases h
      rename_i hL
      split at h
      · rename_i r Hs hcall
        split at h
        · rename_i hro
          split at h
          · cases h
          · rename_i hany
            simp only [Option.some.injEq, Prod.mk.injEq] at h
            refine ⟨g, as, bs, as', L, r, Hs, he, hargs, Bool.eq_false_iff.2 hL, hcall, hro, h.1.symm, fun i hi => ?_, h.2.symm⟩
            have h1 : L.any (fun i => decide (i < st.k)) = false := Bool.eq_false_iff.2 hany
            rw [List.any_eq_false] at h1
            have := h1 i (List.contains_iff_mem.1 hi)
            simp at this
            exact this
        · cases h
      · cases h
    · cases h
  · cases h

theorem loud_call_inv {C : FT} {st st' : ASt} {cf : SCallee} {mode : Nat} {ss : List SOpd} (h : loud C st base (.call cf mode ss) = some (v, st')) :
    ∃ g as bs as' G os L r Hs, target st.σ cf = some (g, as, bs) ∧ callArgs st.H mode (as ++ evs st.σ ss ++ bs) = some (as', G, os, L) ∧ C g as' os = some (r, Hs) ∧ ¬ (Hs.length < G.length ∨ 64 < Hs.length - G.length) ∧ v = r.ren (backTo G base) ∧
      (((!L.isEmpty && roAny r Hs) = false ∧ st' = behind st base G os Hs) ∨ ((∀ i, L.contains i = true → st.k ≤ i) ∧ st' = behind (freeze L st) base G os Hs)) := by
  simp only [loud] at h
  split at h
  · rename_i g as bs he
    split at h
    · rename_i as' G os L hargs
      split at h
      · rename_i r Hs hcall
        split at h
        · cases h
        split at h
        · cases h
        rename_i hsz
        split at h
        · split at h
          · cases h
          · rename_i hany
            simp only [Option.some.injEq, Prod.mk.injEq] at h
            refine ⟨g, as, bs, as', G, os, L, r, Hs, he, hargs, hcall, hsz, h.1.symm, .inr ⟨fun i hi => ?_, h.2.symm⟩⟩
            have h1 : L.any (fun i => decide (i < st.k)) = false := Bool.eq_false_iff.2 hany
            rw [List.any_eq_false] at h1
            have := h1 i (List.contains_iff_mem.1 hi)
            simp at this
            exact this
        · rename_i hro
          simp only [Option.some.injEq, Prod.mk.injEq] at h
          exact ⟨g, as, bs, as', G, os, L, r, Hs, he, hargs, hcall, hsz, h.1.symm, .inl ⟨Bool.eq_false_iff.2 hro, h.2.symm⟩⟩
      · cases h
    · cases h
  · cases h

set_option maxHeartbeats 2000000 in
theorem loud_sound {C : FT} (hC : CSound P C) {gr : List Nat} {s : SOp} (hs : comp P gr o = some s) {st st' : ASt} (hH : Holds w X μ st.H) (hσ : RelS w X μ a st.σ) (hfr : ∀ k, k < 64 → μ (base + k) = none) (hfr2 : ∀ k ob, lk st.H k = some ob → k < base) (hfr3 : ∀ k, μ k ≠ none → k < base)
    (hc : loud C st base s = some (v, st')) : Turns P o a w X μ st.H base v st' := by
  have hO : Objs w X μ st.H := fun id ob m h1 h2 => by
    obtain ⟨ob', h3, h4⟩ := hH.h id m h2
    rw [h1] at h3; cases h3; exact h4
  unfold comp at hs
  cases hop : o.op <;> simp only [hop] at hs
  case store t x y =>
    simp only [Option.bind_eq_bind, Option.bind_eq_some_iff, Option.some.injEq] at hs
    obtain ⟨n, hn, s1, h1, s2, h2, rfl⟩ := hs
    simp only [loud] at hc
    split at hc
    · rename_i id i off he
      split at hc
      · rename_i ob hl
        split at hc
        · rename_i hcond
          split at hc
          · rename_i ob' hset
            simp only [Option.some.injEq, Prod.mk.injEq] at hc
            obtain ⟨rfl, rfl⟩ := hc
            exact l_store hH hσ hop hn h1 h2 he hl hcond.1 hcond.2 hset
          · cases hc
        · cases hc
      · cases hc
    · cases hc
  case call c =>
    split at hs
    · rename_i f hcl
      split at hs
      · simp only [Option.bind_eq_bind, Option.bind_eq_some_iff, Option.some.injEq] at hs
        obtain ⟨sf, hf, ss, hss, rfl⟩ := hs
        obtain ⟨g, as, bs, as', L, r, Hs, he, hargs, _, hcall, _, rfl, hL, rfl⟩ := loud_callF_inv hc
        exact l_callF hC hH hσ hop (by rw [hcl]; exact hf) hss he hargs hcall hL
      simp only [Option.bind_eq_bind, Option.bind_eq_some_iff, Option.some.injEq] at hs
      obtain ⟨sf, hf, ss, hss, rfl⟩ := hs
      obtain ⟨g, as, bs, as', G, os, L, r, Hs, he, hargs, hcall, hsz, rfl, hst⟩ := loud_call_inv hc
      exact l_call hC hH hσ hop (by rw [hcl]; exact hf) hss he hargs hfr2 hfr3 hcall hsz hst
    · rename_i x m hcl
      simp only [Option.bind_eq_bind, Option.bind_eq_some_iff, Option.some.injEq] at hs
      obtain ⟨sf, hf, ss, hss, rfl⟩ := hs
      obtain ⟨g, as, bs, as', G, os, L, r, Hs, he, hargs, hcall, hsz, rfl, hst⟩ := loud_call_inv hc
      exact l_call hC hH hσ hop (by rw [hcl]; exact ⟨rfl, hf⟩) hss he hargs hfr2 hfr3 hcall hsz hst
    · rename_i hcl
      split at hs
      · split at hs
        · simp only [Option.bind_eq_bind, Option.bind_eq_some_iff, Option.some.injEq] at hs
          obtain ⟨s1, h1, rfl⟩ := hs
          simp [loud] at hc
        · simp only [Option.bind_eq_bind, Option.bind_eq_some_iff, Option.some.injEq] at hs
          obtain ⟨s1, h1, rfl⟩ := hs
          simp [loud] at hc
        · cases hs
      · cases hs
    · rename_i hcl
      split at hs
      · rename_i s' x t u hx ht
        simp only [Option.bind_eq_bind, Option.bind_eq_some_iff] at hs
        obtain ⟨e, he, i, hi, z, hz, s1, h1, s2, h2, hs⟩ := hs
        split at hs
        · rename_i h0
          split at hs
          · rename_i q hu
            split at hs
            · rename_i htu
              subst htu
              cases hs
              simp only [loud] at hc
              split at hc
              · rename_i id n ex
                split at hc
                · rename_i ys ob hys hl
                  split at hc
                  · rename_i hcond
                    obtain ⟨vs, B, cc', hflat'⟩ := content_flat hO (hσ.ev h2) hys
                    have := l_append (base := base) hH hσ hop hcl hx ht (telem_spec he) hu (.inl ⟨_, rfl⟩) hi h0.1 hz h1 ex hl hcond.1 hcond.2.1 hcond.2.2.1 hcond.2.2.2.1 hflat'.len (fun w' hw => hflat'.first w' hw) hflat'.l hcond.2.2.2.2.2 hcond.2.2.2.2.1 rfl
                    split at hc
                    · rename_i hc1
                      simp only [Option.some.injEq, Prod.mk.injEq] at hc
                      obtain ⟨rfl, rfl⟩ := hc
                      rw [if_pos hc1] at this
                      exact this
                    · rename_i hc1
                      simp only [Option.some.injEq, Prod.mk.injEq] at hc
                      obtain ⟨rfl, rfl⟩ := hc
                      rw [if_neg hc1] at this
                      exact this
                  · cases hc
                · cases hc
              · rename_i id lo n hlo0 ex
                split at hc
                · rename_i ys ob hys hl
                  split at hc
                  · rename_i hcond
                    obtain ⟨vs, B, cc', hflat'⟩ := content_flat hO (hσ.ev h2) hys
                    have := l_append2 (base := base) hH hσ hop hcl hx ht (telem_spec he) hu (.inl ⟨_, rfl⟩) hi h0.1 hz h1 ex hl hcond.1 hcond.2.1 hcond.2.2.1 hcond.2.2.2.1 hflat'.len (fun w' hw => hflat'.first w' hw) hflat'.l hcond.2.2.2.2.2.1 hcond.2.2.2.2.1 hcond.2.2.2.2.2.2 rfl
                    simp only [Option.some.injEq, Prod.mk.injEq] at hc
                    obtain ⟨rfl, rfl⟩ := hc
                    exact this
                  · cases hc
                · cases hc
              · rename_i id ex
                split at hc
                · rename_i ys ob hys hl
                  split at hc
                  · rename_i hcond
                    obtain ⟨vs, B, cc', hflat'⟩ := content_flat hO (hσ.ev h2) hys
                    have := l_appendR (base := base) hH hσ hop hcl hx ht (telem_spec he) hu (.inl ⟨_, rfl⟩) hi h1 ex hl hcond.1 hcond.2.1 hflat'.len (fun w' hw => hflat'.first w' hw) hflat'.l hcond.2.2.2 rfl
                    split at hc
                    · rename_i hc1
                      simp only [Option.some.injEq, Prod.mk.injEq] at hc
                      obtain ⟨rfl, rfl⟩ := hc
                      rw [if_pos hc1] at this
                      exact this
                    · rename_i hc1
                      simp only [Option.some.injEq, Prod.mk.injEq] at hc
                      obtain ⟨rfl, rfl⟩ := hc
                      rw [if_neg hc1] at this
                      exact this
                  · cases hc
                · cases hc
              · cases hc
            · cases hs
          · rename_i hu
            split at hs
            · rename_i h8
              cases hs
              simp only [loud] at hc
              split at hc
              · rename_i id n ex
                split at hc
                · rename_i y ob hys hl
                  split at hc
                  · rename_i hcond
                    have hx2 := rep_str (hσ.ev h2) hys
                    have := l_append (base := base) (ys := bytesRow y) (vs := Lib.strCells y) hH hσ hop hcl hx ht (telem_spec he) hu (.inr rfl) hi h0.1 hz h1 ex hl (hcond.1.trans h8.2.symm) hcond.2.1 hcond.2.2.1 hcond.2.2.2.1 (fun w' => by rw [hx2, bytesRow_length]; rfl)
                      (fun w' hw => by rw [hx2, bytesRow_length]; exact Lib.run_firstCells_string w' i.size y) (by rw [h8.2]; exact strFlat y) hcond.2.2.2.2.2 hcond.2.2.2.2.1 rfl
                    split at hc
                    · rename_i hc1
                      simp only [Option.some.injEq, Prod.mk.injEq] at hc
                      obtain ⟨rfl, rfl⟩ := hc
                      rw [if_pos hc1] at this
                      exact this
                    · rename_i hc1
                      simp only [Option.some.injEq, Prod.mk.injEq] at hc
                      obtain ⟨rfl, rfl⟩ := hc
                      rw [if_neg hc1] at this
                      exact this
                  · cases hc
                · cases hc
              · cases hc
            · cases hs
          · cases hs
        · cases hs
      · cases hs
    · rename_i hcl
      split at hs
      · rename_i x t hx ht
        simp only [Option.bind_eq_bind, Option.bind_eq_some_iff] at hs
        obtain ⟨e, he, sz, hn, hs⟩ := hs
        split at hs
        · simp only [Option.bind_eq_some_iff, Option.some.injEq] at hs
          obtain ⟨z, hz, s1, h1, rfl⟩ := hs
          simp only [loud] at hc
          split at hc
          · rename_i id lo len ex
            split at hc
            · rename_i ob hl
              split at hc
              · rename_i hcond
                simp only [Option.some.injEq, Prod.mk.injEq] at hc
                obtain ⟨rfl, rfl⟩ := hc
                exact l_clear hH hσ hop hcl hx ht (telem_spec he) hn hz h1 ex hl hcond.1 hcond.2.2.1 hcond.2.2.2
              · cases hc
            · cases hc
          · cases hc
        · cases hs
      · cases hs
    · simp only [Option.bind_eq_bind, Option.bind_eq_some_iff, Option.some.injEq] at hs
      obtain ⟨ss, hss, rfl⟩ := hs
      simp [loud] at hc
    · simp only [Option.bind_eq_bind, Option.bind_eq_some_iff, Option.some.injEq] at hs
      obtain ⟨ss, hss, rfl⟩ := hs
      simp [loud] at hc
    · cases hs
  all_goals exfalso
  all_goals repeat' first
    | (cases hs; done)
    | (subst hs; simp [loud] at hc; done)
    | (obtain ⟨_, _, hs⟩ := hs)
    | (split at hs)
    | (simp only [Option.bind_eq_bind, Option.bind_eq_some_iff, Option.some.injEq] at hs)
  all_goals (simp [loud] at hc)

end Go.Proofs.Ytjpccbjgmogclaa.Lift
