/- A reading of the program's code by values alone: calls. -/
import Derived.Test.YtlopfjipndhpfabLiftH
set_option linter.unusedVariables false
set_option linter.unusedSimpArgs false
namespace Go.Proofs.Ytlopfjipndhpfab.Lift
open Go Go.RowKit

variable {P : Program} {w : World} {X : Nat → Prop} {μ : Mu} {o : Oper} {a : Act} {σ : List AV} {H : Heap} {base : Nat} {v : AV} {adds : List AObj}

/-- Nothing but what is read: a value without the call's own numbers. -/
theorem clo_rep {X' : Nat → Prop} {G : List Nat} (hO : Objs w X μ H) (hX' : ∀ b, X' b → X b) (hG : ∀ id m, μ id = some m → G.contains id = false → ¬ X' m.b) : ∀ (n : Nat) {x : AV} {u : Value}, Rep w X μ x u → Rep w X' mu0 (clo G n H x) u
  | 0, x, u, h => by simp only [clo]; exact .top _
  | n + 1, x, u, h => by
    have ih := fun {x : AV} {u : Value} => clo_rep hO hX' hG n (x := x) (u := u)
    have mapc : ∀ {cs : List AV} {us : Array Value}, (∀ (j : Nat) (c : AV) (v : Value), cs[j]? = some c → us[j]? = some v → Rep w X μ c v) → ∀ (j : Nat) (c : AV) (v : Value), (cs.map (clo G n H))[j]? = some c → us[j]? = some v → Rep w X' mu0 c v := by
      intro cs us h j c v hc hv
      rw [List.getElem?_map] at hc
      obtain ⟨c0, hc0, rfl⟩ := Option.map_eq_some_iff.1 hc
      exact ih (h j c0 v hc0 hv)
    have mv : ∀ {x : AV} {u : Value}, Rep w X mu0 x u → Rep w X' mu0 x u := fun h => h.move (Nat.le_refl _) (fun _ _ _ => rfl) (fun _ _ h => hX' _ h) (fun _ _ h => h)
    cases h with
    | top v => simp only [clo]; exact .top _
    | bool b => simp only [clo]; exact .bool _
    | int k n => simp only [clo]; exact .int _ _
    | str s => simp only [clo]; exact .str _
    | agg hl h => simp only [clo]; exact .agg (by simpa using hl) (mapc h)
    | tup hl h => simp only [clo]; exact .tup (by simpa using hl) (mapc h)
    | nilP => simp only [clo]; exact .nilP
    | nilF => simp only [clo]; exact .nilF
    | nilI => simp only [clo]; exact .nilI
    | ref h i o => simp only [clo]; exact .top _
    | rref vs hX hlt hv ho hr => simp only [clo]; exact .rref vs (fun h => hX (hX' _ h)) hlt hv ho (fun j c hc => mv (hr j c hc))
    | roE h => simp only [clo]; exact .roE h
    | ro vs hn hX hlt hc hf hz hv ho hr => simp only [clo]; exact .ro vs hn (fun h => hX (hX' _ h)) hlt hc hf hz hv ho (fun i x j c hi hj => mv (hr i x j c hi hj))
    | @own _ id m lo len off cap hm hb hn hc ho =>
      simp only [clo]
      split
      · exact .top _
      rename_i hgc
      have hgc := Bool.eq_false_iff.2 hgc
      cases hl : lk H id with
      | none => exact .top _
      | some ob =>
        simp only []
        split
        · rename_i hle
          have hob := hO id ob m hl hm
          obtain ⟨c0, hc0, hs0, hcells⟩ := hob.c
          by_cases hl0 : len = 0
          · subst hl0
            simp only [List.take_zero, List.map_nil]
            exact .roE (fun e => by cases e)
          have hcap0 : cap ≠ 0 := by have := hob.nc; omega
          obtain rfl : off = lo * m.sz := ho.resolve_right hcap0
          have hat : ∀ (i : Nat) (x : List AV), (((ob.elems.drop lo).take len).map fun x => x.map (clo G n H))[i]? = some x → ∃ y, ob.elems[lo + i]? = some y ∧ x = y.map (clo G n H) := by
            intro i x hi
            rw [List.getElem?_map] at hi
            obtain ⟨y, hy, rfl⟩ := Option.map_eq_some_iff.1 hi
            rw [List.getElem?_take] at hy
            split at hy
            · rw [List.getElem?_drop] at hy; exact ⟨y, hy, rfl⟩
            · cases hy
          have key : ∀ (i : Nat) (x : List AV) (j : Nat) (c : AV), (((ob.elems.drop lo).take len).map fun x => x.map (clo G n H))[i]? = some x → x[j]? = some c →
              ∃ u, c0[(lo + i) * m.sz + j]? = some u ∧ u.oneCell' = true ∧ Rep w X' mu0 c u := by
            intro i x j c hi hj
            obtain ⟨y, hy, rfl⟩ := hat i x hi
            rw [List.getElem?_map] at hj
            obtain ⟨c', hc', rfl⟩ := Option.map_eq_some_iff.1 hj
            obtain ⟨u, hu, h1, h2⟩ := (hcells _ y hy).2 j c' hc'
            exact ⟨u, hu, h1, ih h2⟩
          have hgd : ∀ {k : Nat} {u : Value}, c0[k]? = some u → c0.getD k undef = u := fun h => by simp [h]
          refine .ro (fun i j => c0.getD ((lo + i) * m.sz + j) undef) (by simp; omega) (hG id m hm hgc) hob.lt (by have := hob.nc; omega) (fun e => by cases e) (fun x hx => ?_) (fun i x j c hi hj => ?_) (fun i x j c hi hj => ?_) (fun i x j c hi hj => ?_)
          · obtain ⟨i, hi⟩ := List.getElem?_of_mem hx
            obtain ⟨y, hy, rfl⟩ := hat i x hi
            simp only [List.length_map]
            rw [(hcells _ y hy).1, hob.sz]
          · obtain ⟨u, hu, h1, h2⟩ := key i x j c hi hj
            simp only [hgd hu]
            rw [hob.sz, add_none, cell_of_row w m.b _ c0 m.t (0, 0) hc0, show lo * m.sz + (i * m.sz + j) = (lo + i) * m.sz + j by rw [Nat.add_mul]; omega]
            exact hu
          · obtain ⟨u, hu, h1, h2⟩ := key i x j c hi hj
            simp only [hgd hu]; exact h1
          · obtain ⟨u, hu, h1, h2⟩ := key i x j c hi hj
            simp only [hgd hu]; exact h2
        · exact .top _
    | @own0 _ id lo A =>
      simp only [clo]
      split
      · exact .top _
      cases hl : lk H id with
      | none => exact .top _
      | some ob =>
        simp only []
        split
        · simp only [List.take_zero, List.map_nil]
          exact .roE (fun e => by cases e)
        · exact .top _
    | fn hl hm h h' => simp only [clo]; exact .fn (by simpa using hl) (by simpa using hm) (mapc h) (mapc h')
    | ifc h => simp only [clo]; exact .ifc (ih h)

/-- What is shown of a call. -/
def CallOk (P : Program) (w : World) (X : Nat → Prop) (μ : Mu) (g : Nat) (vs : Array Value) (r : AV) (Hs' : List AObj) : Prop :=
  Calls P g vs w fun e w' => ∃ v X' μ', e = .returned v ∧ Rep w' X' μ' r v ∧ Holds w' X' μ' (zipFrom 0 Hs') ∧ (∀ id m, μ' id = some m → id < Hs'.length) ∧ Fr w X μ w' X' μ'

def CSound (P : Program) (C : FT) : Prop := ∀ g as Hs r Hs', C g as Hs = some (r, Hs') →
  (∃ fn, P.funcs[g]? = some fn ∧ fn.body.isNone = false ∧ (fn.name == "runtime.NumGoroutine") = false) ∧
  ∀ (w : World) (X : Nat → Prop) (μ : Mu) (vs : Array Value), as.length = vs.size → (∀ (j : Nat) (c : AV) (v : Value), as[j]? = some c → vs[j]? = some v → Rep w X μ c v) → Holds w X μ (zipFrom 0 Hs) → (∀ id m, μ id = some m → id < Hs.length) →
    CallOk P w X μ g vs r Hs'

theorem lk_zip : ∀ (Hs : List AObj) (base id : Nat) (ob : AObj), lk (zipFrom base Hs) id = some ob → base ≤ id ∧ Hs[id - base]? = some ob
  | [], base, id, ob, h => by simp [zipFrom, lk] at h
  | o :: r, base, id, ob, h => by
    simp only [zipFrom, lk] at h
    split at h
    · rename_i e
      subst e
      cases h
      simp
    · rename_i e
      obtain ⟨h1, h2⟩ := lk_zip r (base + 1) id ob h
      refine ⟨by omega, ?_⟩
      rw [show id - base = (id - (base + 1)) + 1 by omega]
      simpa using h2

theorem zip_lk : ∀ (Hs : List AObj) (base k : Nat) (ob : AObj), Hs[k]? = some ob → lk (zipFrom base Hs) (base + k) = some ob
  | [], base, k, ob, h => by simp at h
  | o :: r, base, 0, ob, h => by simp at h; subst h; simp [zipFrom, lk]
  | o :: r, base, k + 1, ob, h => by
    simp only [zipFrom, lk]
    rw [if_neg (by omega), show base + (k + 1) = base + 1 + k by omega]
    exact zip_lk r (base + 1) k ob (by simpa using h)

/-- The callee's new objects under the caller's numbers. -/
def joinM (μ : Mu) (base n : Nat) (μc : Mu) : Mu := fun id => if base ≤ id ∧ id < base + n then μc (id - base) else μ id

theorem call_back {Xc Xc' : Nat → Prop} {μc' : Mu} {w' : World} {r : AV} {rv : Value} {Hs : List AObj} (hr : Rep w' Xc' μc' r rv) (hH : Holds w' Xc' μc' (zipFrom 0 Hs)) (hlt : ∀ id m, μc' id = some m → id < Hs.length) (hF : Fr w Xc mu0 w' Xc' μc')
    (hfr : ∀ k, k < Hs.length → μ (base + k) = none) (hXc : ∀ b, Xc b → X b) (hcase : (∀ b, X b → Xc b) ∨ (hasRO 4 r || Hs.any (fun o => o.elems.any fun x => x.any (hasRO 3))) = false) :
    ∃ X' μ', Ext w X μ w' X' μ' ∧ Rep w' X' μ' (r.ren fun i => some (base + i)) rv ∧ New w X μ w' X' μ' base (Hs.map (AObj.ren fun i => some (base + i))) := by
  have hmu : ∀ i j m, (some (base + i) = some j) → μc' i = some m → joinM μ base Hs.length μc' j = some m := by
    intro i j m e h
    cases e
    have := hlt i m h
    unfold joinM
    rw [if_pos (by omega), show base + i - base = i by omega]
    exact h
  have mvR : ∀ {c : AV} {u : Value} {n : Nat}, Rep w' Xc' μc' c u → (hasRO n c = false ∨ ∀ b, X b → Xc b) → Rep w' (fun b => X b ∨ Xc' b) (joinM μ base Hs.length μc') (c.ren fun i => some (base + i)) u := by
    intro c u n hc hh
    refine Rep.ren ?_ hmu
    rcases hh with hh | hh
    · exact hc.noRO hh
    · exact hc.move (Nat.le_refl _) (fun _ _ _ => rfl) (fun b _ hb => hb.elim (fun h => hF.x1 b (hh b h)) (fun h => h)) (fun _ _ h => h)
  have hsplit : (∀ b, X b → Xc b) ∨ (hasRO 4 r = false ∧ ∀ ob ∈ Hs, ∀ x ∈ ob.elems, ∀ c ∈ x, hasRO 3 c = false) := by
    rcases hcase with h | h
    · exact .inl h
    · right
      simp only [Bool.or_eq_false_iff] at h
      refine ⟨h.1, fun ob hob x hx c hc => ?_⟩
      have h2 := h.2
      rw [List.any_eq_false] at h2
      have h3 : (ob.elems.any fun x => x.any (hasRO 3)) = false := Bool.eq_false_iff.2 (h2 ob hob)
      rw [List.any_eq_false] at h3
      have h4 : x.any (hasRO 3) = false := Bool.eq_false_iff.2 (h3 x hx)
      rw [List.any_eq_false] at h4
      exact Bool.eq_false_iff.2 (h4 c hc)
  refine ⟨fun b => X b ∨ Xc' b, joinM μ base Hs.length μc', ?_, ?_, ?_⟩
  · refine ⟨hF.os, hF.tape, hF.output, hF.size, fun b hb => hF.heap b hb (fun id m h => by cases h), fun b h => .inl h, fun b hb h => h.elim id (fun h => hXc b (hF.x2 b hb h)), fun b h => h.elim .inl (fun h => .inr (hH.lt b h)), fun id m h => ?_, fun id m h => ?_⟩
    · unfold joinM
      by_cases hc : base ≤ id ∧ id < base + Hs.length
      · have := hfr (id - base) (by omega)
        rw [show base + (id - base) = id by omega, h] at this
        cases this
      · rw [if_neg hc]; exact h
    · unfold joinM at h
      by_cases hc : base ≤ id ∧ id < base + Hs.length
      · rw [if_pos hc] at h
        exact .inr ((hF.new _ m h).resolve_right (fun ⟨i, m0, h0, _⟩ => by cases h0))
      · rw [if_neg hc] at h; exact .inl h
  · rcases hsplit with h | h
    · exact mvR (n := 4) hr (.inr h)
    · exact mvR (n := 4) hr (.inl h.1)
  · have only : ∀ id m, joinM μ base Hs.length μc' id = some m → μ id = none → base ≤ id ∧ id < base + Hs.length ∧ μc' (id - base) = some m := by
      intro id m h h0
      unfold joinM at h
      by_cases hc : base ≤ id ∧ id < base + Hs.length
      · rw [if_pos hc] at h; exact ⟨hc.1, hc.2, h⟩
      · rw [if_neg hc, h0] at h; cases h
    refine ⟨fun id m h h0 => ?_, fun i j mi mj hi hj h h' e => ?_⟩
    · obtain ⟨h1, h2, h3⟩ := only id m h h0
      obtain ⟨ob, hob, hobj⟩ := hH.h _ m h3
      obtain ⟨_, hget⟩ := lk_zip Hs 0 _ ob hob
      refine ⟨id - base, ob.ren fun i => some (base + i), by omega, by rw [List.getElem?_map]; simp at hget; rw [hget]; rfl, ?_, .inr (hH.x _ m h3), (hF.new _ m h3).resolve_right (fun ⟨i, m0, h0, _⟩ => by cases h0)⟩
      obtain ⟨c, hc, hs, hx⟩ := hobj.c
      refine ⟨hobj.t, hobj.sz, hobj.box, hobj.ver, by simp only [AObj.ren, List.length_map]; exact hobj.n, hobj.nc, hobj.cm, hobj.pos, c, hc, hs, fun i x hi => ?_⟩
      simp only [AObj.ren] at hi
      rw [List.getElem?_map] at hi
      obtain ⟨x0, hx0, rfl⟩ := Option.map_eq_some_iff.1 hi
      obtain ⟨hl, hat⟩ := hx i x0 hx0
      refine ⟨by simpa using hl, fun j y hj => ?_⟩
      rw [List.getElem?_map] at hj
      obtain ⟨y0, hy0, rfl⟩ := Option.map_eq_some_iff.1 hj
      obtain ⟨u, hu, h1', h2'⟩ := hat j y0 hy0
      refine ⟨u, hu, h1', ?_⟩
      rcases hsplit with hh | hh
      · exact mvR (n := 3) h2' (.inr hh)
      · exact mvR (n := 3) h2' (.inl (hh.2 ob (List.mem_of_getElem? (by simpa using hget)) x0 (List.mem_of_getElem? hx0) y0 (List.mem_of_getElem? hy0)))
    · obtain ⟨h1, h2, h3⟩ := only i mi h hi
      obtain ⟨h1', h2', h3'⟩ := only j mj h' hj
      have := hH.inj _ _ mi mj h3 h3' e
      omega

theorem appended {as bs : List AV} {us vs : Array Value} (hl : as.length = us.size) (h : ∀ (j : Nat) (c : AV) (v : Value), as[j]? = some c → us[j]? = some v → Rep w X μ c v) (h' : ∀ (j : Nat) (c : AV) (v : Value), bs[j]? = some c → vs[j]? = some v → Rep w X μ c v) :
    ∀ (j : Nat) (c : AV) (v : Value), (as ++ bs)[j]? = some c → (us ++ vs)[j]? = some v → Rep w X μ c v := by
  intro j c v hc hv
  by_cases hj : j < as.length
  · rw [List.getElem?_append_left hj] at hc
    rw [Array.getElem?_append_left (by omega)] at hv
    exact h j c v hc hv
  · rw [List.getElem?_append_right (by omega)] at hc
    rw [Array.getElem?_append_right (by omega)] at hv
    rw [hl] at hc
    exact h' _ c v hc hv

/-- A call of a function value: what is called, with what. -/
theorem call_enter (hσ : RelS w X μ a σ) {c : Call} (ho : o.op = .call c) {f : Operand} (hc : c.callee = .value f) {sf : SOpd} (hf : copd f = some sf) {ss : List SOpd} (hs : c.args.toList.mapM copd = some ss) {g : Nat} {as bs : List AV} (he : ev σ sf = .fn (.func g) as bs) :
    ∃ vs : Array Value, (as ++ evs σ ss ++ bs).length = vs.size ∧ (∀ (j : Nat) (c : AV) (v : Value), (as ++ evs σ ss ++ bs)[j]? = some c → vs[j]? = some v → Rep w X μ c v) ∧
      ((∃ fn, P.funcs[g]? = some fn ∧ fn.body.isNone = false ∧ (fn.name == "runtime.NumGoroutine") = false) → (execOp a.eval o).run P w = .ok (.enter g vs) w) := by
  have hr := hσ.ev hf
  rw [he] at hr
  generalize hy : a.eval f = y at hr
  obtain ⟨l1, r1⟩ := hσ.evs hs
  cases hr with
  | @fn _ _ _ _ us ws hl hm h h' =>
    have harg : ∀ (j : Nat) (c_1 : AV) (v : Value), (evs σ ss)[j]? = some c_1 → (c.args.map a.eval)[j]? = some v → Rep w X μ c_1 v := by
      intro j x v hx hv
      obtain ⟨p, hp, hr⟩ := r1 j x hx
      rw [Array.getElem?_toList] at hp
      rw [Array.getElem?_map, hp] at hv
      cases hv; exact hr
    have hlen : (evs σ ss).length = (c.args.map a.eval).size := by simp [evs, l1]
    refine ⟨us ++ c.args.map a.eval ++ ws, by simp [hl, hm, hlen], appended (by simp [hl, hlen]) (appended hl h harg) h', fun ⟨fn, h1, h2, h3⟩ => ?_⟩
    have hcf : (callFunc g (us ++ c.args.map a.eval ++ ws)).run P w = .ok (.enter g (us ++ c.args.map a.eval ++ ws)) w := by
      unfold callFunc
      simp only [Sem.run_bind, run_program, Result.andThen_ok, h1, h2, h3, Bool.false_eq_true, if_false, Sem.run_pure]
    simp only [execOp, ho, resolve, hc, hy, Deferred.ofValue, invoke, Sem.run_bind, Sem.run_pure, Result.andThen_ok, hcf]

theorem wp_enter {g : Nat} {vs : Array Value} (h : (execOp a.eval o).run P w = .ok (.enter g vs) w) {K : Act → World → Prop} {Q : Exit → Act → World → Prop} {R : Value → World → Prop} (hc : Calls P g vs w fun e w' => ∃ v, e = .returned v ∧ R v w')
    (hk : ∀ v w', R v w' → K (a.put o.dst v) w') : o.wp P a w K Q := by
  unfold Oper.wp
  rw [h, Oper.upon_enter]
  refine Calls.mono hc fun e w' he => ?_
  obtain ⟨v, rfl, hR⟩ := he
  exact hk v w' hR

theorem pos_spec : ∀ {G : List Nat} {i j : Nat}, pos G i = some j → G[j]? = some i
  | [], i, j, h => by simp [pos] at h
  | g :: G, i, j, h => by
    simp only [pos] at h
    split at h
    · rename_i e; cases h; simp [e]
    · obtain ⟨j', hj', rfl⟩ := Option.map_eq_some_iff.1 h
      simpa using pos_spec hj'

theorem pos_of : ∀ {G : List Nat} {i j : Nat}, G.Nodup → G[j]? = some i → pos G i = some j
  | [], i, j, _, h => by simp at h
  | g :: G, i, 0, _, h => by simp at h; simp [pos, h]
  | g :: G, i, j + 1, hn, h => by
    have hm : i ∈ G := List.mem_of_getElem? (by simpa using h)
    have hne : ¬ g = i := fun e => by subst e; exact (List.nodup_cons.1 hn).1 hm
    simp only [pos, if_neg hne, pos_of (List.nodup_cons.1 hn).2 (by simpa using h), Option.map_some]

theorem pos_none {G : List Nat} {i : Nat} (h : pos G i = none) : ¬ i ∈ G := by
  induction G with
  | nil => simp
  | cons g G ih =>
    simp only [pos] at h
    split at h
    · cases h
    · rename_i hne
      have := ih (Option.map_eq_none_iff.1 h)
      simp only [List.mem_cons, not_or]
      exact ⟨fun e => hne e.symm, this⟩

/-- The callee's objects, by the caller's. -/
def subM (G : List Nat) (μ : Mu) : Mu := fun j => (G[j]?).bind μ

/-- The blocks that come with a call. -/
def given (G : List Nat) (μ : Mu) : Nat → Prop := fun b => ∃ id m, id ∈ G ∧ μ id = some m ∧ m.b = b

structure ArgsOk (H : Heap) (gr : Bool) (as as' : List AV) (G : List Nat) (os : List AObj) (lent : Bool) : Prop where
  nodup : G.Nodup
  os : ∃ os0, G.mapM (lk H) = some os0 ∧ os = os0.map (AObj.ren (pos G))
  args : as' = (if gr then as else as.map (lend G H)).map (AV.ren (pos G))
  lent : lent = (!gr && as.any lends)

theorem callArgs_spec {H : Heap} {gr : Bool} {as as' : List AV} {G : List Nat} {os : List AObj} {lent : Bool} (h : callArgs H gr as = some (as', G, os, lent)) : ArgsOk H gr as as' G os lent := by
  simp only [callArgs] at h
  split at h
  · rename_i hn
    split at h
    · rename_i os0 ho
      simp only [Option.some.injEq, Prod.mk.injEq] at h
      obtain ⟨h1, rfl, h3, h4⟩ := h
      exact ⟨hn, ⟨os0, ho, h3.symm⟩, h1.symm, h4.symm⟩
    · cases h
  · cases h

theorem lend1_rep {Xc : Nat → Prop} {μc : Mu} {G : List Nat} (hO : Objs w X μ H) (hXc : ∀ b, Xc b → X b) (hmu : ∀ i j m, pos G i = some j → μ i = some m → μc j = some m) {x : AV} {u : Value} (hG : isOwn x = true → ∀ id m, μ id = some m → G.contains id = false → ¬ Xc m.b) (h : Rep w X μ x u) :
    Rep w Xc μc ((lend1 G H x).ren (pos G)) u := by
  unfold lend1
  split
  · rename_i ho
    exact (clo_rep hO hXc (hG ho) 4 h).ren (fun i j m _ e => by cases e)
  · exact (h.move (Nat.le_refl _) (fun _ _ _ => rfl) (fun b _ hb => hXc b hb) (fun _ _ h => h)).ren hmu

theorem lend_rep {Xc : Nat → Prop} {μc : Mu} {G : List Nat} (hO : Objs w X μ H) (hXc : ∀ b, Xc b → X b) (hmu : ∀ i j m, pos G i = some j → μ i = some m → μc j = some m) {x : AV} {u : Value} (hG : lends x = true → ∀ id m, μ id = some m → G.contains id = false → ¬ Xc m.b) (h : Rep w X μ x u) :
    Rep w Xc μc ((lend G H x).ren (pos G)) u := by
  cases h with
  | agg hl h =>
    simp only [lend, AV.ren, renL_eq, List.map_map]
    refine .agg (by simpa using hl) fun j c v hc hv => ?_
    rw [List.getElem?_map] at hc
    obtain ⟨c0, hc0, rfl⟩ := Option.map_eq_some_iff.1 hc
    exact lend1_rep hO hXc hmu (fun ho => hG (List.any_eq_true.2 ⟨c0, List.mem_of_getElem? hc0, ho⟩)) (h j c0 v hc0 hv)
  | top => exact lend1_rep hO hXc hmu hG (.top _)
  | bool b => exact lend1_rep hO hXc hmu hG (.bool b)
  | int k n => exact lend1_rep hO hXc hmu hG (.int k n)
  | str s => exact lend1_rep hO hXc hmu hG (.str s)
  | tup hl h => exact lend1_rep hO hXc hmu hG (.tup hl h)
  | nilP => exact lend1_rep hO hXc hmu hG .nilP
  | nilF => exact lend1_rep hO hXc hmu hG .nilF
  | nilI => exact lend1_rep hO hXc hmu hG .nilI
  | ref h i o => exact lend1_rep hO hXc hmu hG (.ref h i o)
  | rref vs hX hlt hv ho hr => exact lend1_rep hO hXc hmu hG (.rref vs hX hlt hv ho hr)
  | roE h => exact lend1_rep hO hXc hmu hG (.roE h)
  | ro vs hn hX hlt hc hf hz hv ho hr => exact lend1_rep hO hXc hmu hG (.ro vs hn hX hlt hc hf hz hv ho hr)
  | own h hb hn hc ho => exact lend1_rep hO hXc hmu hG (.own h hb hn hc ho)
  | own0 => exact lend1_rep hO hXc hmu hG .own0
  | fn hl hm h h' => exact lend1_rep hO hXc hmu hG (.fn hl hm h h')
  | ifc h => exact lend1_rep hO hXc hmu hG (.ifc h)

/-- What comes with a call holds for the callee. -/
theorem args_ok {gr : Bool} {as as' : List AV} {G : List Nat} {os : List AObj} {lent : Bool} (ha : ArgsOk H gr as as' G os lent) (hO : Objs w X μ H) (hx : ∀ id m, μ id = some m → X m.b) (hinj : ∀ i j mi mj, μ i = some mi → μ j = some mj → mi.b = mj.b → i = j) (hXlt : ∀ b, X b → b < w.heap.size)
    {vs : Array Value} (hrep : ∀ (j : Nat) (c : AV) (v : Value), as[j]? = some c → vs[j]? = some v → Rep w X μ c v) :
    ∃ Xc : Nat → Prop, (∀ b, Xc b → X b) ∧ (lent = false → ∀ b, X b → Xc b) ∧ as'.length = as.length ∧ (∀ (j : Nat) (c : AV) (v : Value), as'[j]? = some c → vs[j]? = some v → Rep w Xc (subM G μ) c v) ∧ Holds w Xc (subM G μ) (zipFrom 0 os) ∧
      (∀ id m, subM G μ id = some m → id < os.length) ∧ os.length = G.length ∧ ∀ (j : Nat) (o : AObj), os[j]? = some o → ∃ (id : Nat) (ob : AObj), G[j]? = some id ∧ lk H id = some ob ∧ o = ob.ren (pos G) := by
  obtain ⟨os0, ho1, ho2⟩ := ha.os
  obtain ⟨hl0, hat0⟩ := mapM_at ho1
  have hlen : os.length = G.length := by rw [ho2]; simp [hl0]
  have hos : ∀ (j : Nat) (o : AObj), os[j]? = some o → ∃ (id : Nat) (ob : AObj), G[j]? = some id ∧ lk H id = some ob ∧ o = ob.ren (pos G) := by
    intro j o hj
    rw [ho2, List.getElem?_map] at hj
    obtain ⟨ob, hob, rfl⟩ := Option.map_eq_some_iff.1 hj
    obtain ⟨id, hid, hlk⟩ := hat0 j ob hob
    exact ⟨id, ob, hid, hlk, rfl⟩
  have hsub : ∀ j m, subM G μ j = some m → ∃ id, G[j]? = some id ∧ μ id = some m := by
    intro j m h
    unfold subM at h
    exact Option.bind_eq_some_iff.1 h
  have hgX : ∀ b, given G μ b → X b := fun b ⟨id, m, _, h1, h2⟩ => h2 ▸ hx id m h1
  have hmu : ∀ i j m, pos G i = some j → μ i = some m → subM G μ j = some m := by
    intro i j m h1 h2
    unfold subM
    rw [pos_spec h1]; exact h2
  have hGn : ∀ id m, μ id = some m → G.contains id = false → ¬ given G μ m.b := by
    intro id m hm hc ⟨id', m', h1, h2, h3⟩
    have := hinj _ _ _ _ h2 hm h3
    subst this
    simp at hc; exact hc h1
  have main : ∀ Xc : Nat → Prop, (∀ b, Xc b → X b) → (∀ b, given G μ b → Xc b) → (lent = true → ∀ id m, μ id = some m → G.contains id = false → ¬ Xc m.b) →
      as'.length = as.length ∧ (∀ (j : Nat) (c : AV) (v : Value), as'[j]? = some c → vs[j]? = some v → Rep w Xc (subM G μ) c v) ∧ Holds w Xc (subM G μ) (zipFrom 0 os) := by
    intro Xc hXc hgc hl
    refine ⟨by rw [ha.args]; cases gr <;> simp, fun j c v hj hv => ?_, ⟨fun j m h => ?_, fun j m h => ?_, fun i j mi mj h1 h2 e => ?_, fun b hb => hXlt b (hXc b hb)⟩⟩
    · rw [ha.args, List.getElem?_map] at hj
      obtain ⟨c0, hc0, rfl⟩ := Option.map_eq_some_iff.1 hj
      cases gr with
      | true =>
        simp only [if_true] at hc0
        exact ((hrep j c0 v hc0 hv).move (Nat.le_refl _) (fun _ _ _ => rfl) (fun b _ hb => hXc b hb) (fun _ _ h => h)).ren hmu
      | false =>
        simp only [Bool.false_eq_true, if_false, List.getElem?_map] at hc0
        obtain ⟨c1, hc1, rfl⟩ := Option.map_eq_some_iff.1 hc0
        refine lend_rep hO hXc hmu (fun hle => hl ?_) (hrep j c1 v hc1 hv)
        rw [ha.lent]
        simp only [Bool.not_false, Bool.true_and]
        exact List.any_eq_true.2 ⟨c1, List.mem_of_getElem? hc1, hle⟩
    · obtain ⟨id, h1, h2⟩ := hsub j m h
      exact hgc _ ⟨id, m, List.mem_of_getElem? h1, h2, rfl⟩
    · obtain ⟨id, h1, h2⟩ := hsub j m h
      have hjl : j < os.length := by rw [hlen]; exact (List.getElem?_eq_some_iff.1 h1).1
      obtain ⟨id', ob, h3, h4, h5⟩ := hos j _ (List.getElem?_eq_getElem hjl)
      rw [h1] at h3; cases h3
      have hob := hO id ob m h4 h2
      refine ⟨ob.ren (pos G), by rw [← h5]; have := zip_lk os 0 j _ (List.getElem?_eq_getElem hjl); rwa [Nat.zero_add] at this, ?_⟩
      obtain ⟨c, hc, hs, hxx⟩ := hob.c
      refine ⟨hob.t, hob.sz, hob.box, hob.ver, by simp only [AObj.ren, List.length_map]; exact hob.n, hob.nc, hob.cm, hob.pos, c, hc, hs, fun i x hi => ?_⟩
      simp only [AObj.ren] at hi
      rw [List.getElem?_map] at hi
      obtain ⟨x0, hx0, rfl⟩ := Option.map_eq_some_iff.1 hi
      obtain ⟨q1, q2⟩ := hxx i x0 hx0
      refine ⟨by simpa using q1, fun j' y hy => ?_⟩
      rw [List.getElem?_map] at hy
      obtain ⟨y0, hy0, rfl⟩ := Option.map_eq_some_iff.1 hy
      obtain ⟨u, hu, q3, q4⟩ := q2 j' y0 hy0
      exact ⟨u, hu, q3, (q4.move (Nat.le_refl _) (fun _ _ _ => rfl) (fun b _ hb => hXc b hb) (fun _ _ h => h)).ren hmu⟩
    · obtain ⟨id1, a1, a2⟩ := hsub i mi h1
      obtain ⟨id2, b1, b2⟩ := hsub j mj h2
      have := hinj _ _ _ _ a2 b2 e
      subst this
      have q1 := pos_of ha.nodup a1
      have q2 := pos_of ha.nodup b1
      rw [q1] at q2; cases q2; rfl
  have hsl : ∀ id m, subM G μ id = some m → id < os.length := by
    intro id m h
    obtain ⟨i, h1, _⟩ := hsub id m h
    rw [hlen]; exact (List.getElem?_eq_some_iff.1 h1).1
  cases lent with
  | true =>
    obtain ⟨m1, m2, m3⟩ := main (given G μ) hgX (fun _ h => h) (fun _ => hGn)
    exact ⟨given G μ, hgX, (fun h => by cases h), m1, m2, m3, hsl, hlen, hos⟩
  | false =>
    obtain ⟨m1, m2, m3⟩ := main X (fun _ h => h) hgX (fun h => by cases h)
    exact ⟨X, fun _ h => h, fun _ _ h => h, m1, m2, m3, hsl, hlen, hos⟩

theorem d_call {C : FT} (hC : CSound P C) (hO : Objs w X μ H) (hx : ∀ id m, μ id = some m → X m.b) (hinj : ∀ i j mi mj, μ i = some mi → μ j = some mj → mi.b = mj.b → i = j) (hXlt : ∀ b, X b → b < w.heap.size) (hσ : RelS w X μ a σ) {c : Call} (ho : o.op = .call c) {f : Operand} (hc : c.callee = .value f) {sf : SOpd} (hf : copd f = some sf)
    {ss : List SOpd} (hs : c.args.toList.mapM copd = some ss) {g : Nat} {as bs as' : List AV} (he : ev σ sf = .fn (.func g) as bs) {gr lent : Bool} (hargs : callArgs H gr (as ++ evs σ ss ++ bs) = some (as', [], [], lent)) {r : AV} {Hs : List AObj} (hfr : ∀ k, k < Hs.length → μ (base + k) = none)
    (hcall : C g as' [] = some (r, Hs)) (hro : (lent && (hasRO 4 r || Hs.any (fun o => o.elems.any fun x => x.any (hasRO 3)))) = false) :
    Does P o a w X μ base (r.ren fun i => some (base + i)) (Hs.map (AObj.ren fun i => some (base + i))) := by
  intro K Q hk
  obtain ⟨vs, hl, hrep, hrun⟩ := call_enter (P := P) hσ ho hc hf hs he
  obtain ⟨Xc, x1, x2, hlen, hrep', hH, hsl, _, _⟩ := args_ok (callArgs_spec hargs) hO hx hinj hXlt hrep
  have hmu : subM [] μ = mu0 := by funext j; simp [subM, mu0]
  rw [hmu] at hrep' hH hsl
  obtain ⟨hfn, hcs⟩ := hC g _ _ r Hs hcall
  have hok := hcs w Xc mu0 vs (by rw [hlen, hl]) hrep' hH hsl
  refine wp_enter (hrun hfn) (R := fun v w' => ∃ X' μ', Rep w' X' μ' r v ∧ Holds w' X' μ' (zipFrom 0 Hs) ∧ (∀ id m, μ' id = some m → id < Hs.length) ∧ Fr w Xc mu0 w' X' μ') (Calls.mono hok fun e w' ⟨v, X', μ', h1, h2, h3, h4, h5⟩ => ⟨v, h1, X', μ', h2, h3, h4, h5⟩) ?_
  intro v w' ⟨Xc', μc', h2, h3, h4, h5⟩
  obtain ⟨X', μ', e1, e2, e3⟩ := call_back (X := X) (μ := μ) (base := base) h2 h3 h4 h5 hfr x1 (by
    cases lent with
    | true => exact .inr (by simpa using hro)
    | false => exact .inl (x2 rfl))
  exact hk v w' X' μ' e1 e2 e3

end Go.Proofs.Ytlopfjipndhpfab.Lift
