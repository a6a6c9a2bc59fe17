/- A reading of the program's code by values alone: calls. -/
import Derived.Test.YtjpccbjgmogclaaLiftH
set_option linter.all false
set_option linter.unusedSimpArgs false
namespace Go.Proofs.Ytjpccbjgmogclaa.Lift
open Go Go.RowKit

variable {P : Program} {w : World} {X : Nat → Prop} {μ : Mu} {o : Oper} {a : Act} {σ : List AV} {H : Heap} {base : Nat} {v : AV} {adds : List AObj}

/-- Nothing but what is read: a value without the call's own numbers. -/
theorem clo_rep {X' : Nat → Prop} {G : List Nat} (hO : Objs w X μ H) (hX' : ∀ b, X' b → X b) (hG : ∀ id m ob, μ id = some m → lk H id = some ob → G.contains id = false → ¬ X' m.b) : ∀ (n : Nat) {x : AV} {u : Value}, Rep w X μ x u → Rep w X' mu0 (clo G n H x) u
  | 0, x, u, h => by simp only [clo]; exact .top _
  | n + 1, x, u, h => by
    have ih := fun {x : AV} {u : Value} => clo_rep hO hX' hG n (x := x) (u := u)
    have mapc : ∀ {cs : List AV} {us : Array Value}, (∀ (j : Nat) (c : AV) (v : Value), cs[j]? = some c → us[j]? = some v → Rep w X μ c v) → ∀ (j : Nat) (c : AV) (v : Value), (cs.map (clo G n H))[j]? = some c → us[j]? = some v → Rep w X' mu0 c v := by
      intro cs us h j c v hc hv
      rw [List.getElem?_map] at hc
      obtain ⟨c0, hc0, rfl⟩ := Option.map_eq_some_iff.1 hc
      exact ih (h j c0 v hc0 hv)
    have mv : ∀ {x : AV} {u : Value}, Rep w X mu0 x u → Rep w X' mu0 x u := fun h => h.move (Nat.le_refl _) (fun _ _ _ => rfl) (fun _ _ h => hX' _ h) (fun _ _ h => h)
    cases h with
    | top v => simp only [clo]; exact .top _
    | bool b => simp only [clo]; exact .bool _
    | int k n => simp only [clo]; exact .int _ _
    | str s => simp only [clo]; exact .str _
    | agg hl h => simp only [clo]; exact .agg (by simpa using hl) (mapc h)
    | tup hl h => simp only [clo]; exact .tup (by simpa using hl) (mapc h)
    | nilP => simp only [clo]; exact .nilP
    | nilS => simp only [clo]; exact .nilS
    | emp => simp only [clo]; exact .emp
    | nilF => simp only [clo]; exact .nilF
    | nilI => simp only [clo]; exact .nilI
    | @ref _ id m hm i off =>
      simp only [clo]
      split
      · exact .top _
      rename_i hgc
      have hgc := Bool.eq_false_iff.2 hgc
      cases hl : lk H id with
      | none => exact .top _
      | some ob =>
        simp only []
        cases hel : ob.elems[i]? with
        | none => exact .top _
        | some x =>
          simp only []
          split
          · rename_i hle
            have hob := hO id ob m hl hm
            obtain ⟨c0, hc0, hs0, hcells⟩ := hob.c
            obtain ⟨hlx, hat⟩ := hcells i x hel
            have hgd : ∀ {k : Nat} {u : Value}, c0[k]? = some u → c0.getD k undef = u := fun h => by simp [h]
            have key : ∀ (j : Nat) (c : AV), ((x.drop off).map (clo G n H))[j]? = some c → ∃ u, c0[(i + m.o) * m.sz + off + j]? = some u ∧ u.oneCell' = true ∧ Rep w X' mu0 c u := by
              intro j c hj
              rw [List.getElem?_map] at hj
              obtain ⟨c', hc', rfl⟩ := Option.map_eq_some_iff.1 hj
              rw [List.getElem?_drop] at hc'
              obtain ⟨u, hu, h1, h2⟩ := hat (off + j) c' hc'
              exact ⟨u, by rw [Nat.add_assoc]; exact hu, h1, ih h2⟩
            refine .rref (fun j => c0.getD ((i + m.o) * m.sz + off + j) undef) (hG id m ob hm hl hgc) hob.lt (fun j c hc => ?_) (fun j c hc => ?_) (fun j c hc => ?_)
            · obtain ⟨u, hu, h1, h2⟩ := key j c hc
              simp only [hgd hu]
              rw [add_none, hc0.cell]
              exact hu
            · obtain ⟨u, hu, h1, h2⟩ := key j c hc
              simp only [hgd hu]; exact h1
            · obtain ⟨u, hu, h1, h2⟩ := key j c hc
              simp only [hgd hu]; exact h2
          · exact .top _
    | rref vs hX hlt hv ho hr => simp only [clo]; exact .rref vs (fun h => hX (hX' _ h)) hlt hv ho (fun j c hc => mv (hr j c hc))
    | roE h => simp only [clo]; exact .roE h
    | ro vs hn hX hlt hc hf hz hv ho hr => simp only [clo]; exact .ro vs hn (fun h => hX (hX' _ h)) hlt hc hf hz hv ho (fun i x j c hi hj => mv (hr i x j c hi hj))
    | @own _ id m lo len off cap hm hb hn hc ho =>
      simp only [clo]
      split
      · exact .top _
      rename_i hgc
      have hgc := Bool.eq_false_iff.2 hgc
      cases hl : lk H id with
      | none => exact .top _
      | some ob =>
        simp only []
        split
        · rename_i hle
          have hob := hO id ob m hl hm
          obtain ⟨c0, hc0, hs0, hcells⟩ := hob.c
          by_cases hl0 : len = 0
          · subst hl0
            simp only [List.take_zero, List.map_nil]
            exact .roE (fun e => by cases e)
          have hcap0 : cap ≠ 0 := by have := hob.nc; omega
          obtain rfl : off = (lo + m.o) * m.sz := ho.resolve_right hcap0
          have hat : ∀ (i : Nat) (x : List AV), (((ob.elems.drop lo).take len).map fun x => x.map (clo G n H))[i]? = some x → ∃ y, ob.elems[lo + i]? = some y ∧ x = y.map (clo G n H) := by
            intro i x hi
            rw [List.getElem?_map] at hi
            obtain ⟨y, hy, rfl⟩ := Option.map_eq_some_iff.1 hi
            rw [List.getElem?_take] at hy
            split at hy
            · rw [List.getElem?_drop] at hy; exact ⟨y, hy, rfl⟩
            · cases hy
          have key : ∀ (i : Nat) (x : List AV) (j : Nat) (c : AV), (((ob.elems.drop lo).take len).map fun x => x.map (clo G n H))[i]? = some x → x[j]? = some c →
              ∃ u, c0[(lo + i + m.o) * m.sz + j]? = some u ∧ u.oneCell' = true ∧ Rep w X' mu0 c u := by
            intro i x j c hi hj
            obtain ⟨y, hy, rfl⟩ := hat i x hi
            rw [List.getElem?_map] at hj
            obtain ⟨c', hc', rfl⟩ := Option.map_eq_some_iff.1 hj
            obtain ⟨u, hu, h1, h2⟩ := (hcells _ y hy).2 j c' hc'
            exact ⟨u, hu, h1, ih h2⟩
          have hgd : ∀ {k : Nat} {u : Value}, c0[k]? = some u → c0.getD k undef = u := fun h => by simp [h]
          refine .ro (fun i j => c0.getD ((lo + i + m.o) * m.sz + j) undef) (by simp; omega) (hG id m ob hm hl hgc) hob.lt (by have := hob.nc; omega) (fun e => by cases e) (fun x hx => ?_) (fun i x j c hi hj => ?_) (fun i x j c hi hj => ?_) (fun i x j c hi hj => ?_)
          · obtain ⟨i, hi⟩ := List.getElem?_of_mem hx
            obtain ⟨y, hy, rfl⟩ := hat i x hi
            simp only [List.length_map]
            rw [(hcells _ y hy).1, hob.sz]
          · obtain ⟨u, hu, h1, h2⟩ := key i x j c hi hj
            simp only [hgd hu]
            rw [hob.sz, add_none, hc0.cell, show (lo + m.o) * m.sz + (i * m.sz + j) = (lo + i + m.o) * m.sz + j by rw [Nat.add_right_comm lo i, Nat.add_mul (lo + m.o)]; omega]
            exact hu
          · obtain ⟨u, hu, h1, h2⟩ := key i x j c hi hj
            simp only [hgd hu]; exact h1
          · obtain ⟨u, hu, h1, h2⟩ := key i x j c hi hj
            simp only [hgd hu]; exact h2
        · exact .top _
    | @own0 _ id lo A =>
      simp only [clo]
      split
      · exact .top _
      cases hl : lk H id with
      | none => exact .top _
      | some ob =>
        simp only []
        split
        · simp only [List.take_zero, List.map_nil]
          exact .roE (fun e => by cases e)
        · exact .top _
    | rl h => simp only [clo]; exact .roE (fun e => by cases e)
    | fn hl hm h h' => simp only [clo]; exact .fn (by simpa using hl) (by simpa using hm) (mapc h) (mapc h')
    | ifc h => simp only [clo]; exact .ifc (ih h)

/-- What is shown of a call. -/
def CallOk (P : Program) (w : World) (X : Nat → Prop) (μ : Mu) (g : Nat) (vs : Array Value) (r : AV) (Hs' : List AObj) : Prop :=
  Calls P g vs w fun e w' => ∃ v X' μ', e = .returned v ∧ Rep w' X' μ' r v ∧ Holds w' X' μ' (zipFrom 0 Hs') ∧ (∀ id m, μ' id = some m → id < Hs'.length) ∧ Fr w X μ w' X' μ'

def CSound (P : Program) (C : FT) : Prop := ∀ g as Hs r Hs', C g as Hs = some (r, Hs') →
  (∃ fn, P.funcs[g]? = some fn ∧ fn.body.isNone = false ∧ (fn.name == "runtime.NumGoroutine") = false) ∧
  ∀ (w : World) (X : Nat → Prop) (μ : Mu) (vs : Array Value), as.length = vs.size → (∀ (j : Nat) (c : AV) (v : Value), as[j]? = some c → vs[j]? = some v → Rep w X μ c v) → Holds w X μ (zipFrom 0 Hs) → (∀ id m, μ id = some m → id < Hs.length) →
    CallOk P w X μ g vs r Hs'

theorem lk_zip : ∀ (Hs : List AObj) (base id : Nat) (ob : AObj), lk (zipFrom base Hs) id = some ob → base ≤ id ∧ Hs[id - base]? = some ob
  | [], base, id, ob, h => by simp [zipFrom, lk] at h
  | o :: r, base, id, ob, h => by
    simp only [zipFrom, lk] at h
    split at h
    · rename_i e
      subst e
      cases h
      simp
    · rename_i e
      obtain ⟨h1, h2⟩ := lk_zip r (base + 1) id ob h
      refine ⟨by omega, ?_⟩
      rw [show id - base = (id - (base + 1)) + 1 by omega]
      simpa using h2

theorem zip_lk : ∀ (Hs : List AObj) (base k : Nat) (ob : AObj), Hs[k]? = some ob → lk (zipFrom base Hs) (base + k) = some ob
  | [], base, k, ob, h => by simp at h
  | o :: r, base, 0, ob, h => by simp at h; subst h; simp [zipFrom, lk]
  | o :: r, base, k + 1, ob, h => by
    simp only [zipFrom, lk]
    rw [if_neg (by omega), show base + (k + 1) = base + 1 + k by omega]
    exact zip_lk r (base + 1) k ob (by simpa using h)

/-- The callee's new objects under the caller's numbers. -/
def joinM (μ : Mu) (base n : Nat) (μc : Mu) : Mu := fun id => if base ≤ id ∧ id < base + n then μc (id - base) else μ id

theorem call_back {Xc Xc' : Nat → Prop} {μc' : Mu} {w' : World} {r : AV} {rv : Value} {Hs : List AObj} (hr : Rep w' Xc' μc' r rv) (hH : Holds w' Xc' μc' (zipFrom 0 Hs)) (hlt : ∀ id m, μc' id = some m → id < Hs.length) (hF : Fr w Xc mu0 w' Xc' μc')
    (hfr : ∀ k, k < Hs.length → μ (base + k) = none) (hXc : ∀ b, Xc b → X b) (hXlt : ∀ b, X b → b < w.heap.size) (hcase : (∀ b, X b → Xc b) ∨ roAny r Hs = false) :
    ∃ X' μ', Ext w X μ w' X' μ' ∧ Rep w' X' μ' (r.ren fun i => some (base + i)) rv ∧ New w X μ w' X' μ' base (Hs.map (AObj.ren fun i => some (base + i))) := by
  have hmu : ∀ i j m, (some (base + i) = some j) → μc' i = some m → joinM μ base Hs.length μc' j = some m := by
    intro i j m e h
    cases e
    have := hlt i m h
    unfold joinM
    rw [if_pos (by omega), show base + i - base = i by omega]
    exact h
  have mvR : ∀ {c : AV} {u : Value} {n : Nat}, Rep w' Xc' μc' c u → (hasRO n c = false ∨ ∀ b, X b → Xc b) → Rep w' (fun b => X b ∨ Xc' b) (joinM μ base Hs.length μc') (c.ren fun i => some (base + i)) u := by
    intro c u n hc hh
    refine Rep.ren ?_ hmu
    rcases hh with hh | hh
    · exact hc.noRO hh
    · exact hc.move (Nat.le_refl _) (fun _ _ _ => rfl) (fun b _ hb => hb.elim (fun h => hF.x1 b (hXlt b h) (hh b h)) (fun h => h)) (fun _ _ h => h)
  have hsplit : (∀ b, X b → Xc b) ∨ (hasRO 504 r = false ∧ ∀ ob ∈ Hs, ∀ x ∈ ob.elems, ∀ c ∈ x, hasRO 503 c = false) := by
    rcases hcase with h | h
    · exact .inl h
    · right
      simp only [roAny, Bool.or_eq_false_iff] at h
      refine ⟨h.1, fun ob hob x hx c hc => ?_⟩
      have h2 := h.2
      rw [List.any_eq_false] at h2
      have h3 : (ob.elems.any fun x => x.any (hasRO 503)) = false := Bool.eq_false_iff.2 (h2 ob hob)
      rw [List.any_eq_false] at h3
      have h4 : x.any (hasRO 503) = false := Bool.eq_false_iff.2 (h3 x hx)
      rw [List.any_eq_false] at h4
      exact Bool.eq_false_iff.2 (h4 c hc)
  refine ⟨fun b => X b ∨ Xc' b, joinM μ base Hs.length μc', ?_, ?_, ?_⟩
  · refine ⟨hF.os, hF.tape, hF.output, hF.size, fun b hb => hF.heap b hb (fun id m h => by cases h), fun b h => .inl h, fun b hb h => h.elim id (fun h => hXc b (hF.x2 b hb h)), fun b h => h.elim .inl (fun h => .inr (hH.lt b h)), fun id m h => ?_, fun id m h => ?_⟩
    · unfold joinM
      by_cases hc : base ≤ id ∧ id < base + Hs.length
      · have := hfr (id - base) (by omega)
        rw [show base + (id - base) = id by omega, h] at this
        cases this
      · rw [if_neg hc]; exact h
    · unfold joinM at h
      by_cases hc : base ≤ id ∧ id < base + Hs.length
      · rw [if_pos hc] at h
        exact .inr ((hF.new _ m h).resolve_right (fun ⟨m0, h0, _⟩ => by cases h0))
      · rw [if_neg hc] at h; exact .inl h
  · rcases hsplit with h | h
    · exact mvR (n := 504) hr (.inr h)
    · exact mvR (n := 504) hr (.inl h.1)
  · have only : ∀ id m, joinM μ base Hs.length μc' id = some m → μ id = none → base ≤ id ∧ id < base + Hs.length ∧ μc' (id - base) = some m := by
      intro id m h h0
      unfold joinM at h
      by_cases hc : base ≤ id ∧ id < base + Hs.length
      · rw [if_pos hc] at h; exact ⟨hc.1, hc.2, h⟩
      · rw [if_neg hc, h0] at h; cases h
    refine ⟨fun id m h h0 => ?_, fun i j mi mj hi hj h h' e => ?_⟩
    · obtain ⟨h1, h2, h3⟩ := only id m h h0
      obtain ⟨ob, hob, hobj⟩ := hH.h _ m h3
      obtain ⟨_, hget⟩ := lk_zip Hs 0 _ ob hob
      refine ⟨id - base, ob.ren fun i => some (base + i), by omega, by rw [List.getElem?_map]; simp at hget; rw [hget]; rfl, ?_, .inr (hH.x _ m h3), (hF.new _ m h3).resolve_right (fun ⟨m0, h0, _⟩ => by cases h0)⟩
      obtain ⟨c, hc, hs, hx⟩ := hobj.c
      refine ⟨hobj.t, hobj.sz, hobj.box, hobj.ver, by simp only [AObj.ren, List.length_map]; exact hobj.n, hobj.nc, hobj.cm, hobj.pos, c, hc, hs, fun i x hi => ?_⟩
      simp only [AObj.ren] at hi
      rw [List.getElem?_map] at hi
      obtain ⟨x0, hx0, rfl⟩ := Option.map_eq_some_iff.1 hi
      obtain ⟨hl, hat⟩ := hx i x0 hx0
      refine ⟨by simpa using hl, fun j y hj => ?_⟩
      rw [List.getElem?_map] at hj
      obtain ⟨y0, hy0, rfl⟩ := Option.map_eq_some_iff.1 hj
      obtain ⟨u, hu, h1', h2'⟩ := hat j y0 hy0
      refine ⟨u, hu, h1', ?_⟩
      rcases hsplit with hh | hh
      · exact mvR (n := 503) h2' (.inr hh)
      · exact mvR (n := 503) h2' (.inl (hh.2 ob (List.mem_of_getElem? (by simpa using hget)) x0 (List.mem_of_getElem? hx0) y0 (List.mem_of_getElem? hy0)))
    · obtain ⟨h1, h2, h3⟩ := only i mi h hi
      obtain ⟨h1', h2', h3'⟩ := only j mj h' hj
      have := hH.inj _ _ mi mj h3 h3' e
      omega

theorem appended {as bs : List AV} {us vs : Array Value} (hl : as.length = us.size) (h : ∀ (j : Nat) (c : AV) (v : Value), as[j]? = some c → us[j]? = some v → Rep w X μ c v) (h' : ∀ (j : Nat) (c : AV) (v : Value), bs[j]? = some c → vs[j]? = some v → Rep w X μ c v) :
    ∀ (j : Nat) (c : AV) (v : Value), (as ++ bs)[j]? = some c → (us ++ vs)[j]? = some v → Rep w X μ c v := by
  intro j c v hc hv
  by_cases hj : j < as.length
  · rw [List.getElem?_append_left hj] at hc
    rw [Array.getElem?_append_left (by omega)] at hv
    exact h j c v hc hv
  · rw [List.getElem?_append_right (by omega)] at hc
    rw [Array.getElem?_append_right (by omega)] at hv
    rw [hl] at hc
    exact h' _ c v hc hv

/-- A callee and its reading. -/
def CalleeOk (P : Program) : Callee → SCallee → Prop
  | .value f, .val sf => copd f = some sf
  | .invoke x m, .inv tbl sx => tbl = invTbl P m ∧ copd x = some sx
  | _, _ => False

theorem assoc_mem : ∀ {l : List (Nat × Nat)} {t g : Nat}, assocN l t = some g → (t, g) ∈ l
  | [], t, g, h => by simp [assocN] at h
  | (a, b) :: r, t, g, h => by
    simp only [assocN] at h
    split at h
    · rename_i e; cases h; subst e; simp
    · exact List.mem_cons_of_mem _ (assoc_mem h)

theorem run_callFunc {g : Nat} {vs : Array Value} (h : ∃ fn, P.funcs[g]? = some fn ∧ fn.body.isNone = false ∧ (fn.name == "runtime.NumGoroutine") = false) : (callFunc g vs).run P w = .ok (.enter g vs) w := by
  obtain ⟨fn, h1, h2, h3⟩ := h
  unfold callFunc
  simp only [Sem.run_bind, run_program, Result.andThen_ok, h1, h2, h3, Bool.false_eq_true, if_false, Sem.run_pure]

theorem run_method {m : String} {t g : Nat} (h : (t, g) ∈ invTbl P m) (v : Value) {n : Nat} (hn : 0 < n) : (method n t v m).run P w = .ok (g, v) w := by
  unfold invTbl at h
  obtain ⟨t', _, h⟩ := List.mem_filterMap.1 h
  unfold inv1 at h
  split at h
  · rename_i i hi
    split at h
    · rename_i r hr
      split at h
      · rename_i hp
        split at h
        · rename_i f hf
          have hpa : r.path.toList = [] := List.isEmpty_iff.1 hp
          obtain ⟨n, rfl⟩ : ∃ k, n = k + 1 := ⟨n - 1, by omega⟩
          split at h
          · cases h
          · rename_i d hne hu
            cases h
            have hrec : ∀ q, (receiverAt t (.val v) false q).run P w = .ok v w := by
              intro q
              unfold receiverAt
              rw [Sem.run_bind, run_underlying hu]
              simp only [Result.andThen_ok]
              cases d <;> first | exact absurd rfl (hne _) | rfl
            simp only [method, typeInfo, Sem.run_bind, run_program, Result.andThen_ok, hi, Sem.run_pure, hr, hpa, follow, hf, hrec]
          · cases h
        · cases h
      · cases h
    · cases h
  · cases h

/-- A call of a function value: what is called, with what. -/
theorem call_enter (hσ : RelS w X μ a σ) {c : Call} (ho : o.op = .call c) {cf : SCallee} (hc : CalleeOk P c.callee cf) {ss : List SOpd} (hs : cargs P c.argTypes.toList c.args.toList = some ss) {g : Nat} {as bs : List AV} (he : target σ cf = some (g, as, bs)) :
    ∃ vs : Array Value, (as ++ evs σ ss ++ bs).length = vs.size ∧ (∀ (j : Nat) (c : AV) (v : Value), (as ++ evs σ ss ++ bs)[j]? = some c → vs[j]? = some v → Rep w X μ c v) ∧
      ((∃ fn, P.funcs[g]? = some fn ∧ fn.body.isNone = false ∧ (fn.name == "runtime.NumGoroutine") = false) → (execOp a.eval o).run P w = .ok (.enter g vs) w) := by
  obtain ⟨l1, r1⟩ := hσ.evA hs
  have harg : ∀ (j : Nat) (c_1 : AV) (v : Value), (evs σ ss)[j]? = some c_1 → (c.args.map a.eval)[j]? = some v → Rep w X μ c_1 v := by
    intro j x v hx hv
    obtain ⟨p, hp, hr⟩ := r1 j x hx
    rw [Array.getElem?_toList] at hp
    rw [Array.getElem?_map, hp] at hv
    cases hv; exact hr
  have hlen : (evs σ ss).length = (c.args.map a.eval).size := by simp [evs, l1]
  cases hcl : c.callee with
  | value f =>
    rw [hcl] at hc
    cases cf with
    | inv tbl sx => exact hc.elim
    | val sf =>
      simp only [target] at he
      split at he
      · rename_i g' as' bs' hev
        cases he
        have hr := hσ.ev hc
        rw [hev] at hr
        generalize hy : a.eval f = y at hr
        cases hr with
        | @fn _ _ _ _ us ws hl hm h h' =>
          refine ⟨us ++ c.args.map a.eval ++ ws, by simp [hl, hm, hlen], appended (by simp [hl, hlen]) (appended hl h harg) h', fun hst => ?_⟩
          have hcf := run_callFunc (w := w) (vs := us ++ c.args.map a.eval ++ ws) hst
          simp only [execOp, ho, resolve, hcl, hy, Deferred.ofValue, invoke, Sem.run_bind, Sem.run_pure, Result.andThen_ok, hcf]
      · cases he
  | invoke x m =>
    rw [hcl] at hc
    cases cf with
    | val sf => exact hc.elim
    | inv tbl sx =>
      obtain ⟨rfl, hx⟩ := hc
      simp only [target] at he
      split at he
      · rename_i t v hev
        split at he
        · rename_i g' hg
          cases he
          have hr := hσ.ev hx
          rw [hev] at hr
          generalize hy : a.eval x = y at hr
          cases hr with
          | @ifc _ _ _ u h =>
            have h1 : ∀ (j : Nat) (c : AV) (q : Value), [v][j]? = some c → (#[u] : Array Value)[j]? = some q → Rep w X μ c q := by
              intro j c q h1 h2
              cases j with
              | zero => simp at h1 h2; subst h1; subst h2; exact h
              | succ j => simp at h1
            refine ⟨#[u] ++ c.args.map a.eval, by simp [hlen]; omega, ?_, fun hst => ?_⟩
            · rw [List.append_nil]
              exact appended (by simp) h1 harg
            · have hcf := run_callFunc (w := w) (vs := #[u] ++ c.args.map a.eval) hst
              have hm := assoc_mem hg
              have hlt : 0 < P.types.size := by
                unfold invTbl at hm
                obtain ⟨t', ht', _⟩ := List.mem_filterMap.1 hm
                have := List.mem_range.1 ht'
                omega
              have hmeth := run_method (w := w) hm u (n := P.types.size + Made.depth) (by omega)
              have he1 : (#[Value.iface t u] ++ c.args.map a.eval)[0]? = some (Value.iface t u) := by
                rw [Array.getElem?_append_left (by simp)]; rfl
              have he2 : (#[Value.iface t u] ++ c.args.map a.eval).extract 1 (#[Value.iface t u] ++ c.args.map a.eval).size = c.args.map a.eval := by
                apply Array.ext'
                simp only [Array.toList_extract, Array.toList_append, Array.size_append]
                simp [List.take_of_length_le]
              simp only [execOp, ho, resolve, hcl, invoke, Sem.run_bind, Sem.run_pure, Result.andThen_ok, hy, he1, he2, callMethod, run_program, hmeth, hcf]
        · cases he
      · cases he
  | builtin b =>
    rw [hcl] at hc
    cases cf <;> exact hc.elim

theorem wp_enter {g : Nat} {vs : Array Value} (h : (execOp a.eval o).run P w = .ok (.enter g vs) w) {K : Act → World → Prop} {Q : Exit → Act → World → Prop} {R : Value → World → Prop} (hc : Calls P g vs w fun e w' => ∃ v, e = .returned v ∧ R v w')
    (hk : ∀ v w', R v w' → K (a.put o.dst v) w') : o.wp P a w K Q := by
  unfold Oper.wp
  rw [h, Oper.upon_enter]
  refine Calls.mono hc fun e w' he => ?_
  obtain ⟨v, rfl, hR⟩ := he
  exact hk v w' hR

theorem pos_spec : ∀ {G : List Nat} {i j : Nat}, pos G i = some j → G[j]? = some i
  | [], i, j, h => by simp [pos] at h
  | g :: G, i, j, h => by
    simp only [pos] at h
    split at h
    · rename_i e; cases h; simp [e]
    · obtain ⟨j', hj', rfl⟩ := Option.map_eq_some_iff.1 h
      simpa using pos_spec hj'

theorem pos_of : ∀ {G : List Nat} {i j : Nat}, G.Nodup → G[j]? = some i → pos G i = some j
  | [], i, j, _, h => by simp at h
  | g :: G, i, 0, _, h => by simp at h; simp [pos, h]
  | g :: G, i, j + 1, hn, h => by
    have hm : i ∈ G := List.mem_of_getElem? (by simpa using h)
    have hne : ¬ g = i := fun e => by subst e; exact (List.nodup_cons.1 hn).1 hm
    simp only [pos, if_neg hne, pos_of (List.nodup_cons.1 hn).2 (by simpa using h), Option.map_some]

theorem pos_none {G : List Nat} {i : Nat} (h : pos G i = none) : ¬ i ∈ G := by
  induction G with
  | nil => simp
  | cons g G ih =>
    simp only [pos] at h
    split at h
    · cases h
    · rename_i hne
      have := ih (Option.map_eq_none_iff.1 h)
      simp only [List.mem_cons, not_or]
      exact ⟨fun e => hne e.symm, this⟩

/-- The callee's objects, by the caller's. -/
def subM (G : List Nat) (μ : Mu) : Mu := fun j => (G[j]?).bind μ

/-- The blocks that come with a call. -/
def given (G : List Nat) (μ : Mu) : Nat → Prop := fun b => ∃ id m, id ∈ G ∧ μ id = some m ∧ m.b = b

structure ArgsOk (H : Heap) (mode : Nat) (as as' : List AV) (G : List Nat) (os : List AObj) (L : List Nat) : Prop where
  nodup : G.Nodup
  os : ∃ os0, G.mapM (lk H) = some os0 ∧ os = os0.map (AObj.ren (pos G))
  args : as' = (if mode = 1 then as else if mode = 2 then as.map (fun a => unf (clo (others H L) 504 H a)) else as.map (lend (others H L) H)).map (AV.ren (pos G))
  disj : ∀ i, L.contains i = true → ¬ i ∈ G

theorem callArgs_spec {H : Heap} {mode : Nat} {as as' : List AV} {G : List Nat} {os : List AObj} {L : List Nat} (h : callArgs H mode as = some (as', G, os, L)) : ArgsOk H mode as as' G os L := by
  simp only [callArgs] at h
  split at h
  · rename_i hn
    split at h
    · rename_i os0 ho
      simp only [Option.some.injEq, Prod.mk.injEq] at h
      obtain ⟨h1, h2, h3, h4⟩ := h
      subst h2; subst h4
      refine ⟨hn, ⟨os0, ho, h3.symm⟩, h1.symm, fun i hi hg => ?_⟩
      unfold lents at hi
      split at hi
      · simp at hi
      · rw [List.contains_iff_mem, List.mem_filter] at hi
        have := hi.2
        rw [Bool.not_eq_true', ← Bool.not_eq_true, List.contains_iff_mem] at this
        exact this hg
    · cases h
  · cases h

theorem lk_mem {H : Heap} {id : Nat} {ob : AObj} (h : lk H id = some ob) : id ∈ H.map (·.1) := by
  induction H with
  | nil => simp [lk] at h
  | cons p H ih =>
    obtain ⟨i, o⟩ := p
    simp only [lk] at h
    split at h
    · rename_i e; subst e; simp
    · simp only [List.map_cons, List.mem_cons]; exact .inr (ih h)

/-- What is there, and isn't among the others, is lent. -/
theorem lent_of {H : Heap} {L : List Nat} {id : Nat} {ob : AObj} (h : lk H id = some ob) (hn : (others H L).contains id = false) : L.contains id = true := by
  unfold others at hn
  rw [← Bool.not_eq_true, List.contains_iff_mem, List.mem_filter] at hn
  refine Classical.byContradiction fun hc => hn ⟨lk_mem h, by rw [Bool.not_eq_true'] ; exact Bool.eq_false_iff.2 hc⟩

/-- What isn't lent. -/
def keptX (L : List Nat) (μ : Mu) (X : Nat → Prop) : Nat → Prop := fun b => X b ∧ ∀ id m, μ id = some m → L.contains id = true → m.b ≠ b

theorem kept_not {H : Heap} {L : List Nat} : ∀ id m ob, μ id = some m → lk H id = some ob → (others H L).contains id = false → ¬ keptX L μ X m.b :=
  fun id m _ h1 h2 h3 h => h.2 id m h1 (lent_of h2 h3) rfl

theorem unf1_rep {x : AV} {u : Value} (h : Rep w X μ x u) : Rep w X μ (unf1 x) u := by
  unfold unf1
  split
  · cases h with
    | roE h => exact .roE (fun e => by cases e)
    | ro vs hn hX hlt hc hf hz hv ho hr => exact .ro vs hn hX hlt hc (fun e => by cases e) hz hv ho hr
  · exact h

theorem unf_rep {x : AV} {u : Value} (h : Rep w X μ x u) : Rep w X μ (unf x) u := by
  unfold unf
  split
  · rename_i cs
    cases h with
    | agg hl h =>
      refine .agg (by simpa using hl) fun j c v hc hv => ?_
      rw [List.getElem?_map] at hc
      obtain ⟨c0, hc0, rfl⟩ := Option.map_eq_some_iff.1 hc
      exact unf1_rep (h j c0 v hc0 hv)
  · exact unf1_rep h

theorem lend1_rep {Xc : Nat → Prop} {μc : Mu} {G N : List Nat} (hO : Objs w X μ H) (hXc : ∀ b, Xc b → X b) (hmu : ∀ i j m, pos G i = some j → μ i = some m → μc j = some m) {x : AV} {u : Value} (hG : ∀ id m ob, μ id = some m → lk H id = some ob → N.contains id = false → ¬ Xc m.b) (h : Rep w X μ x u) :
    Rep w Xc μc ((lend1 N H x).ren (pos G)) u := by
  unfold lend1
  split
  · exact (clo_rep hO hXc hG 504 h).ren (fun i j m _ e => by cases e)
  · exact ((unf1_rep h).move (Nat.le_refl _) (fun _ _ _ => rfl) (fun b _ hb => hXc b hb) (fun _ _ h => h)).ren hmu

theorem lend_rep {Xc : Nat → Prop} {μc : Mu} {G N : List Nat} (hO : Objs w X μ H) (hXc : ∀ b, Xc b → X b) (hmu : ∀ i j m, pos G i = some j → μ i = some m → μc j = some m) {x : AV} {u : Value} (hG : ∀ id m ob, μ id = some m → lk H id = some ob → N.contains id = false → ¬ Xc m.b) (h : Rep w X μ x u) :
    Rep w Xc μc ((lend N H x).ren (pos G)) u := by
  cases h with
  | agg hl h =>
    simp only [lend, AV.ren, renL_eq, List.map_map]
    refine .agg (by simpa using hl) fun j c v hc hv => ?_
    rw [List.getElem?_map] at hc
    obtain ⟨c0, hc0, rfl⟩ := Option.map_eq_some_iff.1 hc
    exact lend1_rep hO hXc hmu hG (h j c0 v hc0 hv)
  | top => exact lend1_rep hO hXc hmu hG (.top _)
  | bool b => exact lend1_rep hO hXc hmu hG (.bool b)
  | int k n => exact lend1_rep hO hXc hmu hG (.int k n)
  | str s => exact lend1_rep hO hXc hmu hG (.str s)
  | tup hl h => exact lend1_rep hO hXc hmu hG (.tup hl h)
  | nilP => exact lend1_rep hO hXc hmu hG .nilP
  | nilS => exact lend1_rep hO hXc hmu hG .nilS
  | emp => exact lend1_rep hO hXc hmu hG .emp
  | nilF => exact lend1_rep hO hXc hmu hG .nilF
  | nilI => exact lend1_rep hO hXc hmu hG .nilI
  | ref h i o => exact lend1_rep hO hXc hmu hG (.ref h i o)
  | rref vs hX hlt hv ho hr => exact lend1_rep hO hXc hmu hG (.rref vs hX hlt hv ho hr)
  | roE h => exact lend1_rep hO hXc hmu hG (.roE h)
  | ro vs hn hX hlt hc hf hz hv ho hr => exact lend1_rep hO hXc hmu hG (.ro vs hn hX hlt hc hf hz hv ho hr)
  | own h hb hn hc ho => exact lend1_rep hO hXc hmu hG (.own h hb hn hc ho)
  | own0 => exact lend1_rep hO hXc hmu hG .own0
  | rl h hb hn hc ho => exact lend1_rep hO hXc hmu hG (.rl h hb hn hc ho)
  | fn hl hm h h' => exact lend1_rep hO hXc hmu hG (.fn hl hm h h')
  | ifc h => exact lend1_rep hO hXc hmu hG (.ifc h)

/-- What comes with a call holds for the callee. -/
theorem args_ok {mode : Nat} {as as' : List AV} {G : List Nat} {os : List AObj} {L : List Nat} (ha : ArgsOk H mode as as' G os L) (hO : Objs w X μ H) (hx : ∀ id m, μ id = some m → X m.b) (hinj : ∀ i j mi mj, μ i = some mi → μ j = some mj → mi.b = mj.b → i = j) (hXlt : ∀ b, X b → b < w.heap.size)
    {vs : Array Value} (hrep : ∀ (j : Nat) (c : AV) (v : Value), as[j]? = some c → vs[j]? = some v → Rep w X μ c v) :
    as'.length = as.length ∧ (∀ (j : Nat) (c : AV) (v : Value), as'[j]? = some c → vs[j]? = some v → Rep w (keptX L μ X) (subM G μ) c v) ∧ Holds w (keptX L μ X) (subM G μ) (zipFrom 0 os) ∧
      (∀ id m, subM G μ id = some m → id < os.length) ∧ os.length = G.length ∧ ∀ (j : Nat) (o : AObj), os[j]? = some o → ∃ (id : Nat) (ob : AObj), G[j]? = some id ∧ lk H id = some ob ∧ o = ob.ren (pos G) := by
  obtain ⟨os0, ho1, ho2⟩ := ha.os
  obtain ⟨hl0, hat0⟩ := mapM_at ho1
  have hlen : os.length = G.length := by rw [ho2]; simp [hl0]
  have hos : ∀ (j : Nat) (o : AObj), os[j]? = some o → ∃ (id : Nat) (ob : AObj), G[j]? = some id ∧ lk H id = some ob ∧ o = ob.ren (pos G) := by
    intro j o hj
    rw [ho2, List.getElem?_map] at hj
    obtain ⟨ob, hob, rfl⟩ := Option.map_eq_some_iff.1 hj
    obtain ⟨id, hid, hlk⟩ := hat0 j ob hob
    exact ⟨id, ob, hid, hlk, rfl⟩
  have hsub : ∀ j m, subM G μ j = some m → ∃ id, G[j]? = some id ∧ μ id = some m := by
    intro j m h
    unfold subM at h
    exact Option.bind_eq_some_iff.1 h
  have hmu : ∀ i j m, pos G i = some j → μ i = some m → subM G μ j = some m := by
    intro i j m h1 h2
    unfold subM
    rw [pos_spec h1]; exact h2
  have hXc : ∀ b, keptX L μ X b → X b := fun b h => h.1
  have hG : ∀ id m ob, μ id = some m → lk H id = some ob → (others H L).contains id = false → ¬ keptX L μ X m.b := kept_not
  refine ⟨by rw [ha.args]; split <;> (try split) <;> simp, fun j c v hj hv => ?_, ⟨fun j m h => ?_, fun j m h => ?_, fun i j mi mj h1 h2 e => ?_, fun b hb => hXlt b (hXc b hb)⟩, fun id m h => ?_, hlen, hos⟩
  · rw [ha.args, List.getElem?_map] at hj
    obtain ⟨c0, hc0, rfl⟩ := Option.map_eq_some_iff.1 hj
    split at hc0
    · exact ((hrep j c0 v hc0 hv).move (Nat.le_refl _) (fun _ _ _ => rfl) (fun b _ hb => hXc b hb) (fun _ _ h => h)).ren hmu
    · split at hc0
      · rw [List.getElem?_map] at hc0
        obtain ⟨c1, hc1, rfl⟩ := Option.map_eq_some_iff.1 hc0
        exact (unf_rep (clo_rep hO hXc hG 504 (hrep j c1 v hc1 hv))).ren (fun i j m _ e => by cases e)
      · rw [List.getElem?_map] at hc0
        obtain ⟨c1, hc1, rfl⟩ := Option.map_eq_some_iff.1 hc0
        exact lend_rep hO hXc hmu hG (hrep j c1 v hc1 hv)
  · obtain ⟨id, h1, h2⟩ := hsub j m h
    refine ⟨hx id m h2, fun id' m' h3 h4 e => ?_⟩
    have := hinj _ _ _ _ h3 h2 e
    subst this
    exact ha.disj _ h4 (List.mem_of_getElem? h1)
  · obtain ⟨id, h1, h2⟩ := hsub j m h
    have hjl : j < os.length := by rw [hlen]; exact (List.getElem?_eq_some_iff.1 h1).1
    obtain ⟨id', ob, h3, h4, h5⟩ := hos j _ (List.getElem?_eq_getElem hjl)
    rw [h1] at h3; cases h3
    have hob := hO id ob m h4 h2
    refine ⟨ob.ren (pos G), by rw [← h5]; have := zip_lk os 0 j _ (List.getElem?_eq_getElem hjl); rwa [Nat.zero_add] at this, ?_⟩
    exact hob.re (g := fun c => c.ren (pos G)) (fun y u hy => (hy.move (Nat.le_refl _) (fun _ _ _ => rfl) (fun b _ hb => hXc b hb) (fun _ _ h => h)).ren hmu) rfl
  · obtain ⟨id1, a1, a2⟩ := hsub i mi h1
    obtain ⟨id2, b1, b2⟩ := hsub j mj h2
    have := hinj _ _ _ _ a2 b2 e
    subst this
    have q1 := pos_of ha.nodup a1
    have q2 := pos_of ha.nodup b1
    rw [q1] at q2; cases q2; rfl
  · obtain ⟨i, h1, _⟩ := hsub id m h
    rw [hlen]; exact (List.getElem?_eq_some_iff.1 h1).1

theorem kept_nil : ∀ b, X b → keptX [] μ X b := fun b h => ⟨h, fun _ _ _ e => by simp at e⟩

theorem d_call {C : FT} (hC : CSound P C) (hO : Objs w X μ H) (hx : ∀ id m, μ id = some m → X m.b) (hinj : ∀ i j mi mj, μ i = some mi → μ j = some mj → mi.b = mj.b → i = j) (hXlt : ∀ b, X b → b < w.heap.size) (hσ : RelS w X μ a σ) {c : Call} (ho : o.op = .call c) {cf : SCallee} (hc : CalleeOk P c.callee cf)
    {ss : List SOpd} (hs : cargs P c.argTypes.toList c.args.toList = some ss) {g : Nat} {as bs as' : List AV} (he : target σ cf = some (g, as, bs)) {mode : Nat} {L : List Nat} (hargs : callArgs H mode (as ++ evs σ ss ++ bs) = some (as', [], [], L)) {r : AV} {Hs : List AObj} (hfr : ∀ k, k < Hs.length → μ (base + k) = none)
    (hcall : C g as' [] = some (r, Hs)) (hro : (!L.isEmpty && roAny r Hs) = false) :
    Does P o a w X μ base (r.ren fun i => some (base + i)) (Hs.map (AObj.ren fun i => some (base + i))) := by
  intro K Q hk
  obtain ⟨vs, hl, hrep, hrun⟩ := call_enter (P := P) hσ ho hc hs he
  obtain ⟨hlen, hrep', hH, hsl, _, _⟩ := args_ok (callArgs_spec hargs) hO hx hinj hXlt hrep
  have hmu : subM [] μ = mu0 := by funext j; simp [subM, mu0]
  rw [hmu] at hrep' hH hsl
  obtain ⟨hfn, hcs⟩ := hC g _ _ r Hs hcall
  have hok := hcs w (keptX L μ X) mu0 vs (by rw [hlen, hl]) hrep' hH hsl
  refine wp_enter (hrun hfn) (R := fun v w' => ∃ X' μ', Rep w' X' μ' r v ∧ Holds w' X' μ' (zipFrom 0 Hs) ∧ (∀ id m, μ' id = some m → id < Hs.length) ∧ Fr w (keptX L μ X) mu0 w' X' μ') (Calls.mono hok fun e w' ⟨v, X', μ', h1, h2, h3, h4, h5⟩ => ⟨v, h1, X', μ', h2, h3, h4, h5⟩) ?_
  intro v w' ⟨Xc', μc', h2, h3, h4, h5⟩
  obtain ⟨X', μ', e1, e2, e3⟩ := call_back (X := X) (μ := μ) (base := base) h2 h3 h4 h5 hfr (fun b h => h.1) hXlt (by
    simp only [Bool.and_eq_false_iff, Bool.not_eq_false'] at hro
    refine hro.imp (fun h => ?_) (fun h => h)
    have := List.isEmpty_iff.1 h
    subst this
    exact kept_nil)
  exact hk v w' X' μ' e1 e2 e3

/-- What a call yields, its rows only read: in the caller's memory. -/
theorem clo_back {Xc X2 Xc' : Nat → Prop} {μc' : Mu} {w' : World} {r : AV} {rv : Value} {Hs : List AObj} (h2 : Rep w' Xc' μc' r rv) (h3 : Holds w' Xc' μc' (zipFrom 0 Hs)) (h5 : Fr w Xc mu0 w' Xc' μc') (hX2 : ∀ b, X2 b → b < w.heap.size) (hcase : (∀ b, X2 b → Xc b) ∨ roAny r Hs = false) :
    Rep w' X2 mu0 (clo [] 504 (zipFrom 0 Hs) r) rv := by
  have hfresh : ∀ id m ob, μc' id = some m → lk (zipFrom 0 Hs) id = some ob → ([] : List Nat).contains id = false → ¬ X2 m.b := by
    intro id m ob hm _ _ hb
    rcases h5.new id m hm with h | ⟨m0, h0, _⟩
    · exact absurd (hX2 _ hb) (by omega)
    · cases h0
  rcases hcase with hc | hro
  · have hO' : Objs w' Xc' μc' (zipFrom 0 Hs) := fun id ob m e1 e2 => by
      obtain ⟨ob', e3, e4⟩ := h3.h id m e2
      rw [e1] at e3; cases e3; exact e4
    exact clo_rep (X' := X2) hO' (fun b hb => h5.x1 b (hX2 b hb) (hc b hb)) hfresh 504 h2
  · simp only [roAny, Bool.or_eq_false_iff] at hro
    have hO' : Objs w' X2 μc' (zipFrom 0 Hs) := fun id ob m e1 e2 => by
      obtain ⟨ob', e3, e4⟩ := h3.h id m e2
      rw [e1] at e3; cases e3
      have hmem : ob ∈ Hs := List.mem_of_getElem? (lk_zip Hs 0 id ob e1).2
      obtain ⟨c, hc, hs, hxx⟩ := e4.c
      refine ⟨e4.t, e4.sz, e4.box, e4.ver, e4.n, e4.nc, e4.cm, e4.pos, c, hc, hs, fun i x hi => ⟨(hxx i x hi).1, fun j y hj => ?_⟩⟩
      obtain ⟨u, hu, q3, q4⟩ := (hxx i x hi).2 j y hj
      refine ⟨u, hu, q3, q4.noRO (n := 503) ?_⟩
      have h4 := hro.2
      rw [List.any_eq_false] at h4
      have h6 : (ob.elems.any fun x => x.any (hasRO 503)) = false := Bool.eq_false_iff.2 (h4 ob hmem)
      rw [List.any_eq_false] at h6
      have h7 : x.any (hasRO 503) = false := Bool.eq_false_iff.2 (h6 x (List.mem_of_getElem? hi))
      rw [List.any_eq_false] at h7
      exact Bool.eq_false_iff.2 (h7 y (List.mem_of_getElem? hj))
    exact clo_rep (X' := X2) hO' (fun b hb => hb) hfresh 504 (h2.noRO (n := 504) hro.1)

/-- A call whose result's rows are only read from then on. -/
theorem d_callF {C : FT} (hC : CSound P C) (hO : Objs w X μ H) (hx : ∀ id m, μ id = some m → X m.b) (hinj : ∀ i j mi mj, μ i = some mi → μ j = some mj → mi.b = mj.b → i = j) (hXlt : ∀ b, X b → b < w.heap.size) (hσ : RelS w X μ a σ) {c : Call} (ho : o.op = .call c) {cf : SCallee} (hc : CalleeOk P c.callee cf)
    {ss : List SOpd} (hs : cargs P c.argTypes.toList c.args.toList = some ss) {g : Nat} {as bs as' : List AV} (he : target σ cf = some (g, as, bs)) {mode : Nat} {L : List Nat} (hargs : callArgs H mode (as ++ evs σ ss ++ bs) = some (as', [], [], L)) {r : AV} {Hs : List AObj}
    (hcall : C g as' [] = some (r, Hs)) (hro : L = [] ∨ roAny r Hs = false) :
    Does P o a w X μ base (clo [] 504 (zipFrom 0 Hs) r) adds := by
  intro K Q hk
  obtain ⟨vs, hl, hrep, hrun⟩ := call_enter (P := P) hσ ho hc hs he
  obtain ⟨hlen, hrep', hH, hsl, _, _⟩ := args_ok (callArgs_spec hargs) hO hx hinj hXlt hrep
  have hmu : subM [] μ = mu0 := by funext j; simp [subM, mu0]
  rw [hmu] at hrep' hH hsl
  obtain ⟨hfn, hcs⟩ := hC g _ _ r Hs hcall
  have hok := hcs w (keptX L μ X) mu0 vs (by rw [hlen, hl]) hrep' hH hsl
  refine wp_enter (hrun hfn) (R := fun v w' => ∃ X' μ', Rep w' X' μ' r v ∧ Holds w' X' μ' (zipFrom 0 Hs) ∧ (∀ id m, μ' id = some m → id < Hs.length) ∧ Fr w (keptX L μ X) mu0 w' X' μ') (Calls.mono hok fun e w' ⟨v, X', μ', h1, h2, h3, h4, h5⟩ => ⟨v, h1, X', μ', h2, h3, h4, h5⟩) ?_
  intro v w' ⟨Xc', μc', h2, h3, h4, h5⟩
  refine hk v w' X μ ⟨h5.os, h5.tape, h5.output, h5.size, fun b hb => h5.heap b hb (fun id m h => by cases h), fun _ h => h, fun _ _ h => h, fun _ h => .inl h, fun _ _ h => h, fun _ _ h => .inl h⟩ ?_ .same
  refine (clo_back (X2 := X) h2 h3 h5 hXlt (hro.imp (fun h => ?_) (fun h => h))).of0
  subst h
  exact kept_nil

theorem d_nilRow {x : Operand} (ho : o.op = .move x ∨ o.op = .assign x) (hx : isNilRow x = true) {t sz : Nat} : Does P o a w X μ base (.own base 0 0) [⟨t, sz, false, [], 0⟩] := by
  have hxe : x = .const (.slice none 0 0) := by
    unfold isNilRow at hx
    split at hx
    · rfl
    · cases hx
  refine does_value (v' := .slice none 0 0) ?_ .own0
  subst hxe
  rcases ho with ho | ho <;> simp [execOp, ho, Act.eval]

end Go.Proofs.Ytjpccbjgmogclaa.Lift
