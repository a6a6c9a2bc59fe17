/- A reading of the program's code by values alone: calls that may turn what comes with them. -/
import Derived.Test.YtlopfjipndhpfabLiftK
set_option linter.unusedVariables false
set_option linter.unusedSimpArgs false
namespace Go.Proofs.Ytlopfjipndhpfab.Lift
open Go Go.RowKit

variable {P : Program} {w : World} {X : Nat → Prop} {μ : Mu} {o : Oper} {a : Act} {base : Nat} {v : AV}

theorem lk_app (A B : Heap) (id : Nat) : lk (A ++ B) id = match lk A id with | some o => some o | none => lk B id := by
  induction A with
  | nil => rfl
  | cons p A ih =>
    obtain ⟨i, o⟩ := p
    simp only [List.cons_append, lk]
    by_cases h : i = id
    · simp [h]
    · simp only [if_neg h]; exact ih

theorem lk_zip_none (Hs : List AObj) (base id : Nat) (h : id < base ∨ base + Hs.length ≤ id) : lk (zipFrom base Hs) id = none := by
  cases hl : lk (zipFrom base Hs) id with
  | none => rfl
  | some ob =>
    obtain ⟨h1, h2⟩ := lk_zip Hs base id ob hl
    have := (List.getElem?_eq_some_iff.1 h2).1
    omega

theorem lk_hputs_out : ∀ (H : Heap) (G : List Nat) (os : List AObj) (id : Nat), ¬ id ∈ G → lk (hputs H G os) id = lk H id
  | H, [], os, id, h => by cases os <;> rfl
  | H, g :: G, [], id, h => rfl
  | H, g :: G, o :: os, id, h => by
    simp only [List.mem_cons, not_or] at h
    simp only [hputs]
    rw [lk_hputs_out _ G os id h.2, lk_hput, if_neg h.1]

theorem lk_hputs_in : ∀ (H : Heap) (G : List Nat) (os : List AObj) (id j : Nat) (o : AObj), G.Nodup → G[j]? = some id → os[j]? = some o → (lk H id).isSome = true → lk (hputs H G os) id = some o
  | H, [], os, id, j, o, _, h, _, _ => by simp at h
  | H, g :: G, [], id, j, o, _, _, h, _ => by simp at h
  | H, g :: G, o' :: os, id, 0, o, hn, h1, h2, h3 => by
    simp at h1 h2
    subst h1; subst h2
    simp only [hputs]
    rw [lk_hputs_out _ G os g (List.nodup_cons.1 hn).1, lk_hput, if_pos rfl]
    obtain ⟨x, hx⟩ := Option.isSome_iff_exists.1 h3
    rw [hx]; rfl
  | H, g :: G, o' :: os, id, j + 1, o, hn, h1, h2, h3 => by
    simp only [hputs]
    have hne : id ≠ g := fun e => by subst e; exact (List.nodup_cons.1 hn).1 (List.mem_of_getElem? (by simpa using h1))
    exact lk_hputs_in _ G os id j o (List.nodup_cons.1 hn).2 (by simpa using h1) (by simpa using h2) (by rw [lk_hput, if_neg hne]; exact h3)

theorem moved_spec : ∀ {G : List Nat} {os os' : List AObj} {j id : Nat}, G[j]? = some id → ¬ id ∈ moved G os os' → ∃ o o', os[j]? = some o ∧ os'[j]? = some o' ∧ o'.ver = o.ver
  | [], os, os', j, id, h, _ => by simp at h
  | g :: G, [], os', j, id, h, hn => by simp only [moved] at hn; exact absurd (List.mem_of_getElem? h) hn
  | g :: G, o :: os, [], j, id, h, hn => by simp only [moved] at hn; exact absurd (List.mem_of_getElem? h) hn
  | g :: G, o :: os, o' :: os', 0, id, h, hn => by
    simp at h; subst h
    simp only [moved, List.mem_append, not_or] at hn
    refine ⟨o, o', rfl, rfl, ?_⟩
    by_cases e : o'.ver = o.ver
    · exact e
    · rw [if_neg e] at hn; simp at hn
  | g :: G, o :: os, o' :: os', j + 1, id, h, hn => by
    simp only [moved, List.mem_append, not_or] at hn
    simpa using moved_spec (by simpa using h) hn.2

/-- The caller's objects behind a call. -/
def joinG (μ : Mu) (G : List Nat) (base n : Nat) (μc : Mu) : Mu := fun id => match pos G id with
  | some j => μc j
  | none => if base ≤ id ∧ id < base + n then μc (id - base + G.length) else μ id

theorem l_call {C : FT} (hC : CSound P C) {st : ASt} (hH : Holds w X μ st.H) (hσ : RelS w X μ a st.σ) {c : Call} (ho : o.op = .call c) {f : Operand} (hc : c.callee = .value f) {sf : SOpd} (hf : copd f = some sf)
    {ss : List SOpd} (hs : c.args.toList.mapM copd = some ss) {g : Nat} {as bs as' : List AV} (he : ev st.σ sf = .fn (.func g) as bs) {gr lent : Bool} {G : List Nat} {os : List AObj} (hargs : callArgs st.H gr (as ++ evs st.σ ss ++ bs) = some (as', G, os, lent)) {r : AV} {Hs : List AObj}
    (hfr : ∀ k, k < 64 → μ (base + k) = none) (hfr2 : ∀ k ob, lk st.H k = some ob → k < base) (hfr3 : ∀ k, μ k ≠ none → k < base)
    (hcall : C g as' os = some (r, Hs)) (hro : (lent && (hasRO 4 r || Hs.any (fun o => o.elems.any fun x => x.any (hasRO 3)))) = false) (hsz : ¬ (Hs.length < G.length ∨ 64 < Hs.length - G.length)) :
    Turns P o a w X μ st.H base (r.ren (backTo G base)) { st with
      σ := st.σ.map (AV.ren (dropL (moved G os Hs)))
      H := zipFrom base ((Hs.drop G.length).map (AObj.ren (backTo G base))) ++ hputs (st.H.map fun p => (p.1, p.2.ren (dropL (moved G os Hs)))) G ((Hs.take G.length).map (AObj.ren (backTo G base))) } := by
  intro K Q hk
  have hO : Objs w X μ st.H := fun id ob m h1 h2 => by
    obtain ⟨ob', h3, h4⟩ := hH.h id m h2
    rw [h1] at h3; cases h3; exact h4
  obtain ⟨vs, hl, hrep, hrun⟩ := call_enter (P := P) hσ ho hc hf hs he
  have hA := callArgs_spec hargs
  obtain ⟨Xc, x1, x2, hlen, hrep', hHc, hsl, hol, hos⟩ := args_ok hA hO hH.x hH.inj hH.lt hrep
  obtain ⟨hfn, hcs⟩ := hC g _ _ r Hs hcall
  have hok := hcs w Xc (subM G μ) vs (by rw [hlen, hl]) hrep' hHc hsl
  refine wp_enter (hrun hfn) (R := fun v w' => ∃ X' μ', Rep w' X' μ' r v ∧ Holds w' X' μ' (zipFrom 0 Hs) ∧ (∀ id m, μ' id = some m → id < Hs.length) ∧ Fr w Xc (subM G μ) w' X' μ') (Calls.mono hok fun e w' ⟨v, X', μ', h1, h2, h3, h4, h5⟩ => ⟨v, h1, X', μ', h2, h3, h4, h5⟩) ?_
  intro rv w' ⟨Xc', μc', hr, hH', hlt', hF⟩
  have hk1 : G.length ≤ Hs.length := by omega
  have hk2 : Hs.length - G.length ≤ 64 := by omega
  have hGlk : ∀ {j id : Nat}, G[j]? = some id → ∃ ob, lk st.H id = some ob := by
    intro j id hj
    have hjl : j < os.length := by rw [hol]; exact (List.getElem?_eq_some_iff.1 hj).1
    obtain ⟨id', ob, h1, h2, _⟩ := hos j _ (List.getElem?_eq_getElem hjl)
    rw [hj] at h1; cases h1
    exact ⟨ob, h2⟩
  have hGlt : ∀ {id : Nat}, id ∈ G → id < base := by
    intro id h
    obtain ⟨j, hj⟩ := List.getElem?_of_mem h
    obtain ⟨ob, hob⟩ := hGlk hj
    exact hfr2 id ob hob
  have hsub : ∀ j m, subM G μ j = some m → ∃ id, G[j]? = some id ∧ μ id = some m := by
    intro j m h
    unfold subM at h
    exact Option.bind_eq_some_iff.1 h
  -- numbers
  have jG : ∀ {id j : Nat}, pos G id = some j → joinG μ G base (Hs.length - G.length) μc' id = μc' j := by intro id j h; unfold joinG; rw [h]
  have jN : ∀ {id : Nat}, pos G id = none → base ≤ id ∧ id < base + (Hs.length - G.length) → joinG μ G base (Hs.length - G.length) μc' id = μc' (id - base + G.length) := by intro id h h2; unfold joinG; rw [h]; simp only []; rw [if_pos h2]
  have jO : ∀ {id : Nat}, pos G id = none → ¬ (base ≤ id ∧ id < base + (Hs.length - G.length)) → joinG μ G base (Hs.length - G.length) μc' id = μ id := by intro id h h2; unfold joinG; rw [h]; simp only []; rw [if_neg h2]
  have hnewnone : ∀ {id : Nat}, base ≤ id → pos G id = none := by
    intro id h
    cases hp : pos G id with
    | none => rfl
    | some j => have := hGlt (List.mem_of_getElem? (pos_spec hp)); omega
  have hmuR : ∀ i j m, backTo G base i = some j → μc' i = some m → joinG μ G base (Hs.length - G.length) μc' j = some m := by
    intro i j m h1 h2
    unfold backTo at h1
    split at h1
    · rename_i hi
      cases h1
      rw [jG (pos_of hA.nodup (List.getElem?_eq_getElem hi))]; exact h2
    · rename_i hi
      cases h1
      have := hlt' i m h2
      rw [jN (hnewnone (by omega)) (by omega), show base + (i - G.length) - base + G.length = i by omega]
      exact h2
  have hsplit : lent = false ∨ (hasRO 4 r = false ∧ ∀ ob ∈ Hs, ∀ x ∈ ob.elems, ∀ c ∈ x, hasRO 3 c = false) := by
    cases lent with
    | false => exact .inl rfl
    | true =>
      right
      simp only [Bool.true_and, Bool.or_eq_false_iff] at hro
      refine ⟨hro.1, fun ob hob x hx c hc => ?_⟩
      have h2 := hro.2
      rw [List.any_eq_false] at h2
      have h3 : (ob.elems.any fun x => x.any (hasRO 3)) = false := Bool.eq_false_iff.2 (h2 ob hob)
      rw [List.any_eq_false] at h3
      have h4 : x.any (hasRO 3) = false := Bool.eq_false_iff.2 (h3 x hx)
      rw [List.any_eq_false] at h4
      exact Bool.eq_false_iff.2 (h4 c hc)
  have mvR : ∀ {c : AV} {u : Value} {n : Nat}, Rep w' Xc' μc' c u → (hasRO n c = false ∨ lent = false) → Rep w' (fun b => X b ∨ Xc' b) (joinG μ G base (Hs.length - G.length) μc') (c.ren (backTo G base)) u := by
    intro c u n hc hh
    refine Rep.ren ?_ hmuR
    rcases hh with hh | hh
    · exact hc.noRO hh
    · exact hc.move (Nat.le_refl _) (fun _ _ _ => rfl) (fun b _ hb => hb.elim (fun h => hF.x1 b (x2 hh b h)) (fun h => h)) (fun _ _ h => h)
  have keep : ∀ b, b < w.heap.size → ¬ X b → w'.heap[b]? = w.heap[b]? := fun b hb hx => hF.heap b hb (fun id m hm e => by
    obtain ⟨i, h1, h2⟩ := hsub id m hm
    exact hx (e ▸ hH.x i m h2))
  have hX' : ∀ b, b < w.heap.size → (X b ∨ Xc' b) → X b := fun b hb h => h.elim (fun h => h) (fun h => x1 b (hF.x2 b hb h))
  -- what stays
  have stays : ∀ {id : Nat} {m : MI}, μ id = some m → ¬ id ∈ moved G os Hs → joinG μ G base (Hs.length - G.length) μc' id = some m := by
    intro id m hm hn
    cases hp : pos G id with
    | none => rw [jO hp (fun h => by have := hfr3 id (by rw [hm]; simp); omega)]; exact hm
    | some j =>
      have hj := pos_spec hp
      obtain ⟨o1, o2, h1, h2, h3⟩ := moved_spec hj hn
      have hsm : subM G μ j = some m := by unfold subM; rw [hj]; exact hm
      obtain ⟨m', hm', _, hpin⟩ := hF.pin j m hsm
      rw [jG hp]
      obtain ⟨ob1, hl1, hob1⟩ := hHc.h j m hsm
      obtain ⟨ob2, hl2, hob2⟩ := hH'.h j m' hm'
      have e1 := (lk_zip os 0 j ob1 hl1).2
      have e2 := (lk_zip Hs 0 j ob2 hl2).2
      simp only [Nat.sub_zero] at e1 e2
      rw [h1] at e1; cases e1
      rw [h2] at e2; cases e2
      rw [hm', hpin (by rw [← hob2.ver, h3, hob1.ver])]
  have mvO : ∀ {y : AV} {u : Value}, Rep w X μ y u → Rep w' (fun b => X b ∨ Xc' b) (joinG μ G base (Hs.length - G.length) μc') (y.ren (dropL (moved G os Hs))) u := by
    intro y u h
    have h1 : Rep w X (fun id => if (moved G os Hs).contains id then none else μ id) (y.ren (dropL (moved G os Hs))) u := h.ren fun i j m e hm => by
      unfold dropL at e
      split at e
      · cases e
      · rename_i hne
        cases e
        rw [if_neg hne]; exact hm
    refine h1.move hF.size keep hX' (fun id m hm => ?_)
    split at hm
    · cases hm
    · rename_i hne
      exact stays hm (by simpa using hne)
  have hobj : ∀ {ob : AObj} {m : MI}, ob ∈ Hs → HObj w' Xc' μc' ob m → HObj w' (fun b => X b ∨ Xc' b) (joinG μ G base (Hs.length - G.length) μc') (ob.ren (backTo G base)) m := by
    intro ob m hmem h
    obtain ⟨c, hc, hs', hxx⟩ := h.c
    refine ⟨h.t, h.sz, h.box, h.ver, by simp only [AObj.ren, List.length_map]; exact h.n, h.nc, h.cm, h.pos, c, hc, hs', fun i x hi => ?_⟩
    simp only [AObj.ren] at hi
    rw [List.getElem?_map] at hi
    obtain ⟨x0, hx0, rfl⟩ := Option.map_eq_some_iff.1 hi
    obtain ⟨q1, q2⟩ := hxx i x0 hx0
    refine ⟨by simpa using q1, fun j y hy => ?_⟩
    rw [List.getElem?_map] at hy
    obtain ⟨y0, hy0, rfl⟩ := Option.map_eq_some_iff.1 hy
    obtain ⟨u, hu, q3, q4⟩ := q2 j y0 hy0
    refine ⟨u, hu, q3, ?_⟩
    rcases hsplit with hh | hh
    · exact mvR (n := 3) q4 (.inr hh)
    · exact mvR (n := 3) q4 (.inl (hh.2 ob hmem x0 (List.mem_of_getElem? hx0) y0 (List.mem_of_getElem? hy0)))
  -- where a number of the caller's comes from
  have cases3 : ∀ {id : Nat} {m : MI}, joinG μ G base (Hs.length - G.length) μc' id = some m →
      (∃ j, pos G id = some j ∧ μc' j = some m) ∨ (pos G id = none ∧ base ≤ id ∧ id < base + (Hs.length - G.length) ∧ μc' (id - base + G.length) = some m) ∨ (pos G id = none ∧ ¬ (base ≤ id ∧ id < base + (Hs.length - G.length)) ∧ μ id = some m) := by
    intro id m h
    cases hp : pos G id with
    | some j => rw [jG hp] at h; exact .inl ⟨j, rfl, h⟩
    | none =>
      by_cases hr : base ≤ id ∧ id < base + (Hs.length - G.length)
      · rw [jN hp hr] at h; exact .inr (.inl ⟨rfl, hr.1, hr.2, h⟩)
      · rw [jO hp hr] at h; exact .inr (.inr ⟨rfl, hr, h⟩)
  have fromC : ∀ {j : Nat} {m : MI}, μc' j = some m → w.heap.size ≤ m.b ∨ ∃ id m0, id ∈ G ∧ μ id = some m0 ∧ m0.b = m.b := by
    intro j m h
    refine (hF.new j m h).imp (fun h => h) (fun ⟨i, m0, h1, h2⟩ => ?_)
    obtain ⟨id, q1, q2⟩ := hsub i m0 h1
    exact ⟨id, m0, List.mem_of_getElem? q1, q2, h2⟩
  have apartO : ∀ {id j : Nat} {m mc : MI}, pos G id = none → μ id = some m → μc' j = some mc → mc.b ≠ m.b := by
    intro id j m mc hp hm hj e
    rcases fromC hj with h | ⟨id', m0, h1, h2, h3⟩
    · have := hH.lt _ (hH.x id m hm); omega
    · have := hH.inj _ _ _ _ h2 hm (h3.trans e)
      subst this
      exact pos_none hp h1
  have hFr : Fr w X μ w' (fun b => X b ∨ Xc' b) (joinG μ G base (Hs.length - G.length) μc') := by
    refine ⟨hF.os, hF.tape, hF.output, hF.size, fun b hb hn => hF.heap b hb (fun i m hm e => ?_), fun b h => .inl h, hX', fun id m hm => ?_, fun id m hm => ?_⟩
    · obtain ⟨id, q1, q2⟩ := hsub i m hm
      exact hn id m q2 e
    · cases hp : pos G id with
      | some j =>
        rw [jG hp]
        exact hF.pin j m (by unfold subM; rw [pos_spec hp]; exact hm)
      | none => exact ⟨m, by rw [jO hp (fun h => by have := hfr3 id (by rw [hm]; simp); omega)]; exact hm, Nat.le_refl _, fun _ => rfl⟩
    · rcases cases3 hm with ⟨j, _, h⟩ | ⟨_, _, _, h⟩ | ⟨_, _, h⟩
      · exact (fromC h).imp (fun h => h) (fun ⟨i, m0, _, q2, q3⟩ => ⟨i, m0, q2, q3⟩)
      · exact (fromC h).imp (fun h => h) (fun ⟨i, m0, _, q2, q3⟩ => ⟨i, m0, q2, q3⟩)
      · exact .inr ⟨id, m, h, rfl⟩
  refine hk rv w' _ _ hFr ⟨by simpa using hσ.size, fun t' x' hx' => ?_⟩ ⟨fun id m hm => ?_, fun id m hm => ?_, fun i j mi mj h1 h2 e => ?_, fun b hb => ?_⟩ ?_ (fun id h => ?_)
  · rw [List.getElem?_map] at hx'
    obtain ⟨x0, hx0, rfl⟩ := Option.map_eq_some_iff.1 hx'
    obtain ⟨q, hq, hrq⟩ := hσ.v t' x0 hx0
    exact ⟨q, hq, mvO hrq⟩
  · rcases cases3 hm with ⟨j, _, h⟩ | ⟨_, _, _, h⟩ | ⟨_, _, h⟩
    · exact .inr (hH'.x j m h)
    · exact .inr (hH'.x _ m h)
    · exact .inl (hH.x id m h)
  · rcases cases3 hm with ⟨j, hp, h⟩ | ⟨hp, hb1, hb2, h⟩ | ⟨hp, hnr, h⟩
    · obtain ⟨ob, hlk, hob⟩ := hH'.h j m h
      have hget := (lk_zip Hs 0 j ob hlk).2
      simp only [Nat.sub_zero] at hget
      have hjG := pos_spec hp
      have hjl : j < G.length := (List.getElem?_eq_some_iff.1 hjG).1
      refine ⟨ob.ren (backTo G base), ?_, hobj (List.mem_of_getElem? hget) hob⟩
      rw [lk_app, lk_zip_none _ _ _ (.inl (hGlt (List.mem_of_getElem? hjG)))]
      simp only []
      refine lk_hputs_in _ G _ id j _ hA.nodup hjG ?_ ?_
      · rw [List.getElem?_map, List.getElem?_take, if_pos hjl, hget]; rfl
      · obtain ⟨ob0, hob0⟩ := hGlk hjG
        rw [lk_map, hob0]; rfl
    · obtain ⟨ob, hlk, hob⟩ := hH'.h _ m h
      have hget := (lk_zip Hs 0 _ ob hlk).2
      simp only [Nat.sub_zero] at hget
      refine ⟨ob.ren (backTo G base), ?_, hobj (List.mem_of_getElem? hget) hob⟩
      have := zip_lk ((Hs.drop G.length).map (AObj.ren (backTo G base))) base (id - base) (ob.ren (backTo G base)) (by
        rw [List.getElem?_map, List.getElem?_drop, show G.length + (id - base) = id - base + G.length by omega, hget]; rfl)
      rw [show base + (id - base) = id by omega] at this
      rw [lk_app, this]
    · obtain ⟨ob, hlk, hob⟩ := hH.h id m h
      refine ⟨ob.ren (dropL (moved G os Hs)), ?_, ?_⟩
      · rw [lk_app, lk_zip_none _ _ _ (.inl (hfr2 id ob hlk))]
        simp only []
        rw [lk_hputs_out _ _ _ _ (pos_none hp), lk_map, hlk]; rfl
      · obtain ⟨c, hc, hs', hxx⟩ := hob.c
        have hblk : w'.heap[m.b]? = w.heap[m.b]? := hF.heap m.b (hH.lt _ (hH.x id m h)) (fun i m0 h0 e => by
          obtain ⟨id', q1, q2⟩ := hsub i m0 h0
          have := hH.inj _ _ _ _ q2 h e
          subst this
          exact pos_none hp (List.mem_of_getElem? q1))
        refine ⟨hob.t, hob.sz, hob.box, hob.ver, by simp only [AObj.ren, List.length_map]; exact hob.n, hob.nc, hob.cm, hob.pos, c, hblk.trans hc, hs', fun i x hi => ?_⟩
        simp only [AObj.ren] at hi
        rw [List.getElem?_map] at hi
        obtain ⟨x0, hx0, rfl⟩ := Option.map_eq_some_iff.1 hi
        obtain ⟨q1, q2⟩ := hxx i x0 hx0
        refine ⟨by simpa using q1, fun j y hy => ?_⟩
        rw [List.getElem?_map] at hy
        obtain ⟨y0, hy0, rfl⟩ := Option.map_eq_some_iff.1 hy
        obtain ⟨u, hu, q3, q4⟩ := q2 j y0 hy0
        exact ⟨u, hu, q3, mvO q4⟩
  · rcases cases3 h1 with ⟨j1, hp1, q1⟩ | ⟨hp1, b1, b1', q1⟩ | ⟨hp1, nr1, q1⟩ <;> rcases cases3 h2 with ⟨j2, hp2, q2⟩ | ⟨hp2, b2, b2', q2⟩ | ⟨hp2, nr2, q2⟩
    · have := hH'.inj _ _ _ _ q1 q2 e
      subst this
      have a1 := pos_spec hp1
      have a2 := pos_spec hp2
      rw [a1] at a2; cases a2; rfl
    · have := hH'.inj _ _ _ _ q1 q2 e
      have := (List.getElem?_eq_some_iff.1 (pos_spec hp1)).1
      omega
    · exact absurd e (apartO hp2 q2 q1)
    · have := hH'.inj _ _ _ _ q1 q2 e
      have := (List.getElem?_eq_some_iff.1 (pos_spec hp2)).1
      omega
    · have := hH'.inj _ _ _ _ q1 q2 e
      omega
    · exact absurd e (apartO hp2 q2 q1)
    · exact absurd e.symm (apartO hp1 q1 q2)
    · exact absurd e.symm (apartO hp1 q1 q2)
    · exact hH.inj _ _ _ _ q1 q2 e
  · exact hb.elim (fun h => Nat.lt_of_lt_of_le (hH.lt b h) hF.size) (fun h => hH'.lt b h)
  · rcases hsplit with hh | hh
    · exact mvR (n := 4) hr (.inr hh)
    · exact mvR (n := 4) hr (.inl hh.1)
  · obtain ⟨m, hm⟩ := Option.ne_none_iff_exists'.1 h
    rcases cases3 hm with ⟨j, hp, _⟩ | ⟨_, b1, b2, _⟩ | ⟨_, _, q⟩
    · exact .inr (.inl (hGlk (pos_spec hp)))
    · exact .inr (.inr ⟨b1, by omega⟩)
    · exact .inl (by rw [q]; simp)

set_option maxHeartbeats 2000000 in
theorem loud_sound {C : FT} (hC : CSound P C) {gr : List Nat} {s : SOp} (hs : comp P gr o = some s) {st st' : ASt} (hH : Holds w X μ st.H) (hσ : RelS w X μ a st.σ) (hfr : ∀ k, k < 64 → μ (base + k) = none) (hfr2 : ∀ k ob, lk st.H k = some ob → k < base) (hfr3 : ∀ k, μ k ≠ none → k < base)
    (hc : loud C st base s = some (v, st')) : Turns P o a w X μ st.H base v st' := by
  have hO : Objs w X μ st.H := fun id ob m h1 h2 => by
    obtain ⟨ob', h3, h4⟩ := hH.h id m h2
    rw [h1] at h3; cases h3; exact h4
  unfold comp at hs
  cases hop : o.op <;> simp only [hop] at hs
  case store t x y =>
    simp only [Option.bind_eq_bind, Option.bind_eq_some_iff, Option.some.injEq] at hs
    obtain ⟨n, hn, s1, h1, s2, h2, rfl⟩ := hs
    simp only [loud] at hc
    split at hc
    · rename_i id i off he
      split at hc
      · rename_i ob hl
        split at hc
        · rename_i hcond
          split at hc
          · rename_i ob' hset
            simp only [Option.some.injEq, Prod.mk.injEq] at hc
            obtain ⟨rfl, rfl⟩ := hc
            exact l_store hH hσ hop hn h1 h2 he hl hcond.1 hcond.2 hset
          · cases hc
        · cases hc
      · cases hc
    · cases hc
  case call c =>
    split at hs
    · rename_i f hcl
      simp only [Option.bind_eq_bind, Option.bind_eq_some_iff, Option.some.injEq] at hs
      obtain ⟨sf, hf, ss, hss, rfl⟩ := hs
      simp only [loud] at hc
      split at hc
      · rename_i g as bs he
        split at hc
        · rename_i as' G os lent hargs
          split at hc
          · cases hc
          split at hc
          · rename_i r Hs hcall
            split at hc
            · cases hc
            · rename_i hro
              split at hc
              · cases hc
              · rename_i hsz
                simp only [Option.some.injEq, Prod.mk.injEq] at hc
                obtain ⟨rfl, rfl⟩ := hc
                exact l_call hC hH hσ hop hcl hf hss he hargs hfr hfr2 hfr3 hcall (Bool.eq_false_iff.2 hro) hsz
          · cases hc
        · cases hc
      · cases hc
    · rename_i hcl
      split at hs
      · split at hs
        · simp only [Option.bind_eq_bind, Option.bind_eq_some_iff, Option.some.injEq] at hs
          obtain ⟨s1, h1, rfl⟩ := hs
          simp [loud] at hc
        · simp only [Option.bind_eq_bind, Option.bind_eq_some_iff, Option.some.injEq] at hs
          obtain ⟨s1, h1, rfl⟩ := hs
          simp [loud] at hc
        · cases hs
      · cases hs
    · rename_i hcl
      split at hs
      · rename_i s' x t u hx ht
        simp only [Option.bind_eq_bind, Option.bind_eq_some_iff] at hs
        obtain ⟨e, he, i, hi, z, hz, s1, h1, s2, h2, hs⟩ := hs
        split at hs
        · rename_i h0
          split at hs
          · rename_i q hu
            split at hs
            · rename_i htu
              subst htu
              cases hs
              simp only [loud] at hc
              split at hc
              · rename_i id n ex
                split at hc
                · rename_i ys ob hys hl
                  split at hc
                  · rename_i hcond
                    obtain ⟨vs, B, cc', hflat'⟩ := content_flat hO (hσ.ev h2) hys
                    have := l_append (base := base) hH hσ hop hcl hx ht (telem_spec he) hu (.inl ⟨_, rfl⟩) hi h0.1 hz h1 ex hl hcond.1 hcond.2.1 hcond.2.2.1 hcond.2.2.2.1 hflat'.len (fun w' hw => hflat'.first w' hw) hflat'.l hcond.2.2.2.2.2 hcond.2.2.2.2.1 rfl
                    split at hc
                    · rename_i hc1
                      simp only [Option.some.injEq, Prod.mk.injEq] at hc
                      obtain ⟨rfl, rfl⟩ := hc
                      rw [if_pos hc1] at this
                      exact this
                    · rename_i hc1
                      simp only [Option.some.injEq, Prod.mk.injEq] at hc
                      obtain ⟨rfl, rfl⟩ := hc
                      rw [if_neg hc1] at this
                      exact this
                  · cases hc
                · cases hc
              · cases hc
            · cases hs
          · rename_i hu
            split at hs
            · rename_i h8
              cases hs
              simp only [loud] at hc
              split at hc
              · rename_i id n ex
                split at hc
                · rename_i y ob hys hl
                  split at hc
                  · rename_i hcond
                    have hx2 := rep_str (hσ.ev h2) hys
                    have := l_append (base := base) (ys := bytesRow y) (vs := Lib.strCells y) hH hσ hop hcl hx ht (telem_spec he) hu (.inr rfl) hi h0.1 hz h1 ex hl (hcond.1.trans h8.2.symm) hcond.2.1 hcond.2.2.1 hcond.2.2.2.1 (fun w' => by rw [hx2, bytesRow_length]; rfl)
                      (fun w' hw => by rw [hx2, bytesRow_length]; exact Lib.run_firstCells_string w' i.size y) (by rw [h8.2]; exact strFlat y) hcond.2.2.2.2.2 hcond.2.2.2.2.1 rfl
                    split at hc
                    · rename_i hc1
                      simp only [Option.some.injEq, Prod.mk.injEq] at hc
                      obtain ⟨rfl, rfl⟩ := hc
                      rw [if_pos hc1] at this
                      exact this
                    · rename_i hc1
                      simp only [Option.some.injEq, Prod.mk.injEq] at hc
                      obtain ⟨rfl, rfl⟩ := hc
                      rw [if_neg hc1] at this
                      exact this
                  · cases hc
                · cases hc
              · cases hc
            · cases hs
          · cases hs
        · cases hs
      · cases hs
    · simp only [Option.bind_eq_bind, Option.bind_eq_some_iff, Option.some.injEq] at hs
      obtain ⟨ss, hss, rfl⟩ := hs
      simp [loud] at hc
    · simp only [Option.bind_eq_bind, Option.bind_eq_some_iff, Option.some.injEq] at hs
      obtain ⟨ss, hss, rfl⟩ := hs
      simp [loud] at hc
    · cases hs
  all_goals exfalso
  all_goals repeat' first
    | (cases hs; done)
    | (subst hs; simp [loud] at hc; done)
    | (obtain ⟨_, _, hs⟩ := hs)
    | (split at hs)
    | (simp only [Option.bind_eq_bind, Option.bind_eq_some_iff, Option.some.injEq] at hs)
  all_goals (simp [loud] at hc)

end Go.Proofs.Ytlopfjipndhpfab.Lift
