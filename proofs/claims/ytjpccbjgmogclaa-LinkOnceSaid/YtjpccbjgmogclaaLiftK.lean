/- A reading of the program's code by values alone: operations that turn what is the call's own. -/
import Derived.Test.YtjpccbjgmogclaaLiftJ
set_option linter.all false
set_option linter.unusedSimpArgs false
namespace Go.Proofs.Ytjpccbjgmogclaa.Lift
open Go Go.RowKit

variable {P : Program} {w : World} {X : Nat → Prop} {μ : Mu} {o : Oper} {a : Act} {base : Nat} {v : AV} {adds : List AObj}

theorem lk_hput : ∀ (H : Heap) (id id' : Nat) (ob : AObj), lk (hput H id ob) id' = if id' = id then (lk H id).map (fun _ => ob) else lk H id'
  | [], id, id', ob => by simp [hput, lk]
  | (i, o) :: t, id, id', ob => by
    have ih := lk_hput t id id' ob
    simp only [hput]
    by_cases h : i = id
    · subst h
      simp only [if_true, lk]
      by_cases h' : i = id'
      · subst h'; simp
      · simp [h', Ne.symm h']
    · simp only [if_neg h, lk]
      by_cases h' : i = id'
      · subst h'; simp [h]
      · simp only [if_neg h', ih]

theorem lk_map (g : AObj → AObj) : ∀ (H : Heap) (id : Nat), lk (H.map fun p => (p.1, g p.2)) id = (lk H id).map g
  | [], id => rfl
  | (i, o) :: t, id => by
    simp only [List.map_cons, lk]
    by_cases h : i = id
    · simp [h]
    · simp [h, lk_map g t id]

/-- Loud: what is shown of an operation that turns what is the call's own. -/
def Turns (P : Program) (o : Oper) (a : Act) (w : World) (X : Nat → Prop) (μ : Mu) (H : Heap) (base : Nat) (v : AV) (st' : ASt) : Prop :=
  ∀ (K : Act → World → Prop) (Q : Exit → Act → World → Prop), (∀ v' w' X' μ', FrK st'.k w X μ w' X' μ' → RelS w' X' μ' a st'.σ → Holds w' X' μ' st'.H → Rep w' X' μ' v v' → (∀ id, μ' id ≠ none → μ id ≠ none ∨ (∃ ob, lk H id = some ob) ∨ (base ≤ id ∧ id < base + 64)) → K (a.put o.dst v') w') → o.wp P a w K Q

theorem wp_skip' {K : Act → World → Prop} {Q : Exit → Act → World → Prop} {w' : World} (h : (execOp a.eval o).run P w = .ok .skip w') (hk : K (a.put o.dst undef) w') : o.wp P a w K Q := by
  unfold Oper.wp; rw [h]; exact hk

theorem setRow_fr {g : Nat} {cs : Array Value} {id : Nat} {m : MI} (hm : μ id = some m) (hg : m.b = g) {μ' : Mu} (hpin : ∀ i m0, μ i = some m0 → ∃ m', μ' i = some m' ∧ m0.ver ≤ m'.ver ∧ (m'.ver = m0.ver → m' = m0)) (hnew : ∀ i m0, μ' i = some m0 → ∃ m1, μ i = some m1 ∧ m1.b = m0.b) : Fr w X μ (w.setRow g cs) X μ' := by
  subst hg
  exact ⟨rfl, rfl, rfl, by simp, fun b hb hn => setRow_other w m.b b cs (fun e => hn id m hm e.symm), fun _ _ h => h, fun _ _ h => h, hpin, fun i m0 h => .inr (hnew i m0 h)⟩

theorem setCells_obj {ob ob' : AObj} {m : MI} {i off : Nat} {vs : List AV} (hob : HObj w X μ ob m) (h : setCells ob i off vs = some ob') {us : Array Value} (hr : RepC w X μ vs us) (hXm : X m.b) :
    ∃ c, Blk w m.b m.t c ∧ ((i + m.o) * m.sz + off) + us.toList.length ≤ c.size ∧
      HObj (w.setRow m.b (c.toList.take ((i + m.o) * m.sz + off) ++ us.toList ++ c.toList.drop ((i + m.o) * m.sz + off + us.toList.length)).toArray) X μ ob' m := by
  unfold setCells at h
  split at h
  · rename_i x hx
    split at h
    · rename_i hle
      cases h
      obtain ⟨c, hc, hs, hcells⟩ := hob.c
      obtain ⟨hlx, hat⟩ := hcells i x hx
      have hi : i < m.n := by rw [← hob.n]; exact (List.getElem?_eq_some_iff.1 hx).1
      have hul : us.toList.length = vs.length := by rw [Array.length_toList, hr.1]
      have hmul : (i + m.o + 1) * m.sz ≤ (m.cap + m.o) * m.sz := Nat.mul_le_mul_right _ (by have := hob.nc; omega)
      rw [Nat.add_mul] at hmul
      have hfit : ((i + m.o) * m.sz + off) + us.toList.length ≤ c.size := by omega
      refine ⟨c, hc, hfit, ?_⟩
      generalize hp : (i + m.o) * m.sz + off = p at *
      have mv : ∀ {y : AV} {u : Value}, Rep w X μ y u → Rep (w.setRow m.b (c.toList.take p ++ us.toList ++ c.toList.drop (p + us.toList.length)).toArray) X μ y u := fun h =>
        h.move (by simp) (fun b _ hnx => setRow_other w m.b b _ (fun e => hnx (e ▸ hXm))) (fun _ _ h => h) (fun _ _ h => h)
      have hget : ∀ k, (c.toList.take p ++ us.toList ++ c.toList.drop (p + us.toList.length)).toArray[k]? = if p ≤ k ∧ k < p + us.toList.length then us.toList[k - p]? else c[k]? := by
        intro k
        simp only [List.getElem?_toArray]
        by_cases h1 : k < p
        · rw [List.append_assoc, List.getElem?_append_left (by simp; omega), List.getElem?_take, if_pos h1, if_neg (by omega)]; simp
        · by_cases h2 : k < p + us.toList.length
          · rw [List.append_assoc, List.getElem?_append_right (by simp; omega), List.getElem?_append_left (by simp at *; omega), if_pos (by omega)]
            congr 1; simp; omega
          · rw [List.append_assoc, List.getElem?_append_right (by simp; omega), List.getElem?_append_right (by simp at *; omega), List.getElem?_drop, if_neg (by omega)]
            rw [Array.getElem?_toList]
            congr 1; simp at *; omega
      refine ⟨hob.t, hob.sz, hob.box, hob.ver, by simpa using hob.n, hob.nc, hob.cm, hob.pos, _, hc.setSeg hfit, ?_, fun i' x' hi' => ?_⟩
      · simp only [List.size_toArray, List.length_append, List.length_take, List.length_drop, Array.length_toList] at *
        omega
      · rw [List.getElem?_set] at hi'
        by_cases hii : i = i'
        · subst hii
          rw [if_pos rfl, if_pos (by rw [hob.n]; exact hi)] at hi'
          cases hi'
          refine ⟨by simp; omega, fun j y hj => ?_⟩
          simp only [hget]
          by_cases h1 : j < off
          · rw [List.append_assoc, List.getElem?_append_left (by simp; omega), List.getElem?_take, if_pos h1] at hj
            obtain ⟨u, hu, h2, h3⟩ := hat j y hj
            exact ⟨u, by rw [if_neg (by omega)]; exact hu, h2, mv h3⟩
          · by_cases h2 : j < off + vs.length
            · rw [List.append_assoc, List.getElem?_append_right (by simp; omega), List.getElem?_append_left (by simp; omega)] at hj
              rw [show j - (x.take off).length = j - off by simp; omega] at hj
              obtain ⟨u, hu, h3, h4⟩ := hr.2 _ y hj
              refine ⟨u, ?_, h3, mv h4⟩
              rw [if_pos (by omega), show (i + m.o) * m.sz + j - p = j - off by omega, Array.getElem?_toList]
              exact hu
            · rw [List.append_assoc, List.getElem?_append_right (by simp; omega), List.getElem?_append_right (by simp; omega), List.getElem?_drop] at hj
              rw [show off + vs.length + (j - (x.take off).length - vs.length) = j by simp; omega] at hj
              obtain ⟨u, hu, h3, h4⟩ := hat j y hj
              exact ⟨u, by rw [if_neg (by omega)]; exact hu, h3, mv h4⟩
        · rw [if_neg hii] at hi'
          obtain ⟨hl', hat'⟩ := hcells i' x' hi'
          refine ⟨hl', fun j y hj => ?_⟩
          obtain ⟨u, hu, h3, h4⟩ := hat' j y hj
          have hj' : j < m.sz := by rw [← hl']; exact (List.getElem?_eq_some_iff.1 hj).1
          refine ⟨u, ?_, h3, mv h4⟩
          rw [hget, if_neg ?_]
          · exact hu
          · rcases Nat.lt_or_gt_of_ne hii with hlt | hlt
            · have : (i + m.o + 1) * m.sz ≤ (i' + m.o) * m.sz := Nat.mul_le_mul_right _ (by omega)
              rw [Nat.add_mul] at this
              omega
            · have : (i' + m.o + 1) * m.sz ≤ (i + m.o) * m.sz := Nat.mul_le_mul_right _ (by omega)
              rw [Nat.add_mul] at this
              omega
    · cases h
  · cases h

theorem l_store {st : ASt} (hH : Holds w X μ st.H) (hσ : RelS w X μ a st.σ) {t : TypeId} {x y : Operand} (ho : o.op = .store t x y) {n : Nat} (hn : tsz P t = some n) {s1 s2 : SOpd} (hx : copd x = some s1) (hy : copd y = some s2)
    {id i off : Nat} (he : ev st.σ s1 = .ref id i off) {ob ob' : AObj} (hl : lk st.H id = some ob) (hlen : (cells (ev st.σ s2)).length = n) (hone : (cells (ev st.σ s2)).all one = true) (hset : setCells ob i off (cells (ev st.σ s2)) = some ob') :
    Turns P o a w X μ st.H base .top { st with H := hput st.H id ob' } := by
  intro K Q hk
  have hr := hσ.ev hx
  rw [he] at hr
  generalize hya : a.eval x = u at hr
  cases hr with
  | @ref _ _ m hm _ _ =>
    obtain ⟨ob0, hl0, hob⟩ := hH.h id m hm
    rw [hl] at hl0; cases hl0
    have hc := cells_rep (hσ.ev hy) hone
    obtain ⟨c, hc0, hfit, hnew⟩ := setCells_obj hob hset hc (hH.x id m hm)
    have hst := Blk.wr P ((i + m.o) * m.sz + off) (a.eval y).cells.toList 0 c w hc0 (by simpa using hfit) (fun u hu => by
      obtain ⟨k, hk⟩ := List.getElem?_of_mem hu
      rw [Array.getElem?_toList] at hk
      have hlt : k < (cells (ev st.σ s2)).length := by rw [hc.1]; exact (Array.getElem?_eq_some_iff.1 hk).1
      obtain ⟨u', hu', h1, _⟩ := hc.2 k _ (List.getElem?_eq_getElem hlt)
      rw [hu'] at hk; cases hk; exact h1)
    simp only [Nat.add_zero] at hst
    have hrun : (execOp a.eval o).run P w = .ok .skip (w.setRow m.b (c.toList.take ((i + m.o) * m.sz + off) ++ (a.eval y).cells.toList ++ c.toList.drop ((i + m.o) * m.sz + off + (a.eval y).cells.toList.length)).toArray) := by
      have hsz : (a.eval y).cells.size = n := by rw [← hc.1, hlen]
      have hne : ¬ ((a.eval y).cells.size ≠ n) := by simp [hsz]
      simp only [execOp, ho, Instr.storeAt, hya, Instr.sureAddr, Sem.run_bind, Sem.run_pure, Result.andThen_ok, storeVar, run_tsz hn, if_neg hne, hst]
    have hfr : Fr w X μ (w.setRow m.b (c.toList.take ((i + m.o) * m.sz + off) ++ (a.eval y).cells.toList ++ c.toList.drop ((i + m.o) * m.sz + off + (a.eval y).cells.toList.length)).toArray) X μ :=
      setRow_fr hm rfl (fun _ m h => ⟨m, h, Nat.le_refl _, fun _ => rfl⟩) (fun i m0 h => ⟨m0, h, rfl⟩)
    have mv : ∀ {y' : AV} {u : Value}, Rep w X μ y' u → Rep (w.setRow m.b (c.toList.take ((i + m.o) * m.sz + off) ++ (a.eval y).cells.toList ++ c.toList.drop ((i + m.o) * m.sz + off + (a.eval y).cells.toList.length)).toArray) X μ y' u := fun h =>
      h.move (by simp) (fun b _ hnx => setRow_other w m.b b _ (fun e => hnx (e ▸ hH.x id m hm))) (fun _ _ h => h) (fun _ _ h => h)
    refine wp_skip' hrun (hk undef _ X μ hfr.toK ⟨hσ.size, fun t x hx => let ⟨v, h1, h2⟩ := hσ.v t x hx; ⟨v, h1, mv h2⟩⟩ ⟨hH.x, fun id' m' hm' => ?_, hH.inj, fun b hb => by simpa using hH.lt b hb⟩ (.top _) (fun id h => .inl h))
    simp only [lk_hput]
    by_cases hid : id' = id
    · subst hid
      rw [hm] at hm'; cases hm'
      rw [if_pos rfl, hl]
      exact ⟨ob', rfl, hnew⟩
    · rw [if_neg hid]
      obtain ⟨ob1, hl1, hob1⟩ := hH.h id' m' hm'
      refine ⟨ob1, hl1, hob1.move (by simp) (fun b _ hnx => setRow_other w m.b b _ (fun e => hnx (e ▸ hH.x id m hm))) (fun _ _ h => h) (fun _ _ h => h) (setRow_other w m.b m'.b _ (fun e => hid (hH.inj _ _ _ _ hm' hm e)))⟩

/-- Elements written over. -/
theorem write_obj {ob : AObj} {m : MI} (hob : HObj w X μ ob m) (hXm : X m.b) {n : Nat} {ys : List (List AV)} {vs : List Value} (hfl : FlatL w X μ m.sz ys vs) (hle : n + ys.length ≤ ob.elems.length) :
    ∃ c, Blk w m.b m.t c ∧ (n + m.o) * m.sz + vs.length ≤ c.size ∧
      HObj (w.setRow m.b (c.toList.take ((n + m.o) * m.sz) ++ vs ++ c.toList.drop ((n + m.o) * m.sz + vs.length)).toArray) X μ { ob with elems := ob.elems.take n ++ ys ++ ob.elems.drop (n + ys.length) } m := by
  obtain ⟨c0, hc0, hs0, hcells⟩ := hob.c
  have hvl := hfl.len
  have helen := hob.n
  have hnc := hob.nc
  have hmulcap : (n + m.o + ys.length) * m.sz ≤ (m.cap + m.o) * m.sz := Nat.mul_le_mul_right _ (by omega)
  rw [Nat.add_mul] at hmulcap
  have htl : (c0.toList.take ((n + m.o) * m.sz)).length = (n + m.o) * m.sz := by simp; omega
  refine ⟨c0, hc0, by omega, ?_⟩
  have hget : ∀ k, (c0.toList.take ((n + m.o) * m.sz) ++ vs ++ c0.toList.drop ((n + m.o) * m.sz + vs.length)).toArray[k]? = if (n + m.o) * m.sz ≤ k ∧ k < (n + m.o) * m.sz + vs.length then vs[k - (n + m.o) * m.sz]? else c0[k]? := by
    intro k
    simp only [List.getElem?_toArray]
    by_cases q1 : k < (n + m.o) * m.sz
    · rw [List.append_assoc, List.getElem?_append_left (by omega), List.getElem?_take, if_pos q1, if_neg (by omega)]; simp
    · by_cases q2 : k < (n + m.o) * m.sz + vs.length
      · rw [List.append_assoc, List.getElem?_append_right (by omega), List.getElem?_append_left (by omega), if_pos (by omega), htl]
      · rw [List.append_assoc, List.getElem?_append_right (by omega), List.getElem?_append_right (by omega), List.getElem?_drop, if_neg (by omega), Array.getElem?_toList, htl]
        congr 1; omega
  have hsize : (c0.toList.take ((n + m.o) * m.sz) ++ vs ++ c0.toList.drop ((n + m.o) * m.sz + vs.length)).toArray.size = (m.cap + m.o) * m.sz := by
    simp only [List.size_toArray, List.length_append, htl, List.length_drop, Array.length_toList]; omega
  have mv : ∀ {y : AV} {q : Value}, Rep w X μ y q → Rep (w.setRow m.b (c0.toList.take ((n + m.o) * m.sz) ++ vs ++ c0.toList.drop ((n + m.o) * m.sz + vs.length)).toArray) X μ y q := fun h => h.move (by simp) (fun b _ hnx => setRow_other w m.b b _ (fun e' => hnx (e' ▸ hXm))) (fun _ _ h => h) (fun _ _ h => h)
  refine ⟨hob.t, hob.sz, hob.box, hob.ver, by simp; omega, hob.nc, hob.cm, hob.pos, _, hc0.setSeg (by omega), hsize, fun j x' hj => ?_⟩
  have hold : ∀ y', ob.elems[j]? = some y' → (j < n ∨ n + ys.length ≤ j) → y'.length = m.sz ∧ ∀ (j' : Nat) (y : AV), y'[j']? = some y → ∃ q : Value, (c0.toList.take ((n + m.o) * m.sz) ++ vs ++ c0.toList.drop ((n + m.o) * m.sz + vs.length)).toArray[(j + m.o) * m.sz + j']? = some q ∧ q.oneCell' = true ∧ Rep (w.setRow m.b (c0.toList.take ((n + m.o) * m.sz) ++ vs ++ c0.toList.drop ((n + m.o) * m.sz + vs.length)).toArray) X μ y q := by
    intro y' hy' hrange
    obtain ⟨q1, q2⟩ := hcells j y' hy'
    refine ⟨q1, fun j' y hy => ?_⟩
    obtain ⟨q, hq, q3, q4⟩ := q2 j' y hy
    refine ⟨q, ?_, q3, mv q4⟩
    have hj' : j' < m.sz := by rw [← q1]; exact (List.getElem?_eq_some_iff.1 hy).1
    rw [hget, if_neg ?_]
    · exact hq
    · rcases hrange with hlt | hge
      · have : (j + m.o + 1) * m.sz ≤ (n + m.o) * m.sz := Nat.mul_le_mul_right _ (by omega)
        rw [Nat.add_mul] at this
        omega
      · have : (n + m.o + ys.length) * m.sz ≤ (j + m.o) * m.sz := Nat.mul_le_mul_right _ (by omega)
        rw [Nat.add_mul] at this
        omega
  by_cases q1 : j < n
  · refine hold x' ?_ (.inl q1)
    simp only [] at hj
    rw [List.append_assoc, List.getElem?_append_left (by simp; omega), List.getElem?_take, if_pos q1] at hj
    exact hj
  · simp only [] at hj
    by_cases q2 : j < n + ys.length
    · rw [List.append_assoc, List.getElem?_append_right (by simp; omega), List.getElem?_append_left (by simp; omega), show j - (ob.elems.take n).length = j - n by simp; omega] at hj
      obtain ⟨q3, q4⟩ := hfl.at_ _ x' hj
      refine ⟨q3, fun j' y hy => ?_⟩
      obtain ⟨q, hq, q5⟩ := q4 j' y hy
      refine ⟨q, ?_, hfl.one q (List.mem_of_getElem? hq), mv q5⟩
      have hlt := (List.getElem?_eq_some_iff.1 hq).1
      have e' : (j + m.o) * m.sz = (n + m.o) * m.sz + (j - n) * m.sz := by rw [← Nat.add_mul]; congr 1; omega
      rw [hget, if_pos (by omega), ← hq]
      congr 1; omega
    · refine hold x' ?_ (.inr (by omega))
      rw [List.append_assoc, List.getElem?_append_right (by simp; omega), List.getElem?_append_right (by simp; omega), List.getElem?_drop] at hj
      rw [← hj]; congr 1; simp; omega

/-- Behind elements written over. -/
theorem write_holds {st : ASt} (hH : Holds w X μ st.H) (hσ : RelS w X μ a st.σ) {id : Nat} {m : MI} (hm : μ id = some m) {ob ob' : AObj} (hl : lk st.H id = some ob) {cs : Array Value} (hob' : HObj (w.setRow m.b cs) X μ ob' m) :
    Fr w X μ (w.setRow m.b cs) X μ ∧ RelS (w.setRow m.b cs) X μ a st.σ ∧ Holds (w.setRow m.b cs) X μ (hput st.H id ob') := by
  have hXm := hH.x id m hm
  have mv : ∀ {y : AV} {q : Value}, Rep w X μ y q → Rep (w.setRow m.b cs) X μ y q := fun h => h.move (by simp) (fun b _ hnx => setRow_other w m.b b _ (fun e' => hnx (e' ▸ hXm))) (fun _ _ h => h) (fun _ _ h => h)
  refine ⟨setRow_fr hm rfl (fun _ m h => ⟨m, h, Nat.le_refl _, fun _ => rfl⟩) (fun i m0 h => ⟨m0, h, rfl⟩), ⟨hσ.size, fun t x hx => let ⟨v, h1, h2⟩ := hσ.v t x hx; ⟨v, h1, mv h2⟩⟩, ⟨hH.x, fun id' m' hm' => ?_, hH.inj, fun b hb => by simpa using hH.lt b hb⟩⟩
  simp only [lk_hput]
  by_cases hid : id' = id
  · subst hid
    rw [hm] at hm'; cases hm'
    rw [if_pos rfl, hl]
    exact ⟨ob', rfl, hob'⟩
  · rw [if_neg hid]
    obtain ⟨ob1, hl1, hob1⟩ := hH.h id' m' hm'
    exact ⟨ob1, hl1, hob1.move (by simp) (fun b _ hnx => setRow_other w m.b b _ (fun e => hnx (e ▸ hXm))) (fun _ _ h => h) (fun _ _ h => h) (setRow_other w m.b m'.b _ (fun e => hid (hH.inj _ _ _ _ hm' hm e)))⟩

theorem zeros_flat {zs : List AV} {z : Array Value} (h : RepC w X μ zs z) {sz : Nat} (hs : zs.length = sz) (n : Nat) : FlatL w X μ sz (List.replicate n zs) (List.replicate n z.toList).flatten := by
  induction n with
  | zero => exact .nil
  | succ n ih =>
    rw [List.replicate_succ, List.replicate_succ, List.flatten_cons]
    refine FlatL.append (xs := [zs]) (us := z.toList) ⟨by simp [← h.1, hs], fun u hu => ?_, fun i x hi => ?_⟩ ih
    · obtain ⟨k, hk⟩ := List.getElem?_of_mem hu
      rw [Array.getElem?_toList] at hk
      obtain ⟨u', hu', h1, _⟩ := h.2 k _ (List.getElem?_eq_getElem (by rw [h.1]; exact (Array.getElem?_eq_some_iff.1 hk).1))
      rw [hk] at hu'; cases hu'; exact h1
    · cases i with
      | zero =>
        simp at hi; subst hi
        refine ⟨hs, fun j c hc => ?_⟩
        obtain ⟨u, hu, _, h2⟩ := h.2 j c hc
        exact ⟨u, by simpa using hu, h2⟩
      | succ i => simp at hi

theorem flatten_get (l : List Value) : ∀ (n j : Nat), j < n * l.length → (List.replicate n l).flatten[j]? = l[j % l.length]?
  | 0, j, h => by simp at h
  | n + 1, j, h => by
    rw [List.replicate_succ, List.flatten_cons]
    by_cases h1 : j < l.length
    · rw [List.getElem?_append_left h1, Nat.mod_eq_of_lt h1]
    · have h2 : j - l.length < n * l.length := by rw [Nat.add_mul] at h; omega
      have h3 : j % l.length = (j - l.length) % l.length := Nat.mod_eq_sub_mod (by omega)
      rw [List.getElem?_append_right (by omega), flatten_get l n (j - l.length) h2, h3]

theorem zeroCells_flat (z : Array Value) (n : Nat) : (Builtin.zeroCells z n).toList = (List.replicate n z.toList).flatten := by
  apply List.ext_getElem?
  intro j
  unfold Builtin.zeroCells
  by_cases h : j < n * z.size
  · have hp : 0 < z.size := Nat.pos_of_ne_zero (fun e => by rw [e] at h; simp at h)
    have hm : j % z.size < z.size := Nat.mod_lt _ hp
    rw [Array.getElem?_toList, Array.getElem?_map, Array.getElem?_range, if_pos h, Option.map_some, getElem!_pos z _ hm]
    rw [flatten_get _ _ _ (by simpa using h), Array.length_toList, Array.getElem?_toList, Array.getElem?_eq_getElem hm]
  · rw [List.getElem?_eq_none (by simpa using Nat.le_of_not_lt h), List.getElem?_eq_none (by simpa using Nat.le_of_not_lt h)]

theorem run_clear_op {c : Call} (ho : o.op = .call c) (hc : c.callee = .builtin .clear) {x : Operand} {t : TypeId} (ha : c.args.toList = [x]) (hat : c.argTypes.toList = [t]) {v' : Value} {w' : World}
    (h : (Builtin.clear_ #[t] o.type #[a.eval x]).run P w = .ok v' w') : (execOp a.eval o).run P w = .ok (.value v') w' := by
  have ha' : c.args = #[x] := by rw [← Array.toList_inj]; exact ha
  have hat' : c.argTypes = #[t] := by rw [← Array.toList_inj]; exact hat
  simp [execOp, ho, resolve, hc, ha', hat', invoke, builtin, h]

theorem l_clear {st : ASt} (hH : Holds w X μ st.H) (hσ : RelS w X μ a st.σ) {c : Call} (ho : o.op = .call c) (hc : c.callee = .builtin .clear) {x : Operand} {t e : TypeId} (ha : c.args.toList = [x]) (hat : c.argTypes.toList = [t]) (ht : P.underlying t = some (.slice e))
    {sz : Nat} (hn : tsz P e = some sz) {zs : List AV} (hz : tzero P e = some zs) {s1 : SOpd} (hx : copd x = some s1) {id lo len : Nat} (he : ev st.σ s1 = .own id lo len) {ob : AObj} (hl : lk st.H id = some ob) (h1 : ob.sz = sz) (h2 : zs.length = sz) (h3 : lo + len ≤ ob.elems.length) :
    Turns P o a w X μ st.H base .top { st with H := hput st.H id { ob with elems := ob.elems.take lo ++ List.replicate len zs ++ ob.elems.drop (lo + len) } } := by
  intro K Q hk
  obtain ⟨i, z, hi, hz', hzs, hrz⟩ := tzero_spec (w := w) (X := X) (μ := μ) hz
  have hr := hσ.ev hx
  rw [he] at hr
  have same : len = 0 → ({ ob with elems := ob.elems.take lo ++ List.replicate len zs ++ ob.elems.drop (lo + len) } : AObj) = ob := by
    intro e0; subst e0; simp
  have none_ : len = 0 → (∃ A c', a.eval x = .slice A 0 c') → o.wp P a w K Q := by
    intro e0 ⟨A, c', hse⟩
    have hrun := run_clear_op (P := P) (w := w) ho hc ha hat (v' := .tuple #[]) (w' := w) (by
      rw [hse]; cases A <;> simp [Builtin.clear_, run_underlying ht])
    refine wp_value hrun (hk _ w X μ .refl hσ ⟨hH.x, fun id' m' hm' => ?_, hH.inj, hH.lt⟩ (.top _) (fun id h => .inl h))
    rw [same e0]
    simp only [lk_hput]
    obtain ⟨ob1, hl1, hob1⟩ := hH.h id' m' hm'
    split
    · rename_i e1; subst e1; rw [hl1]; rw [hl] at hl1; cases hl1; exact ⟨_, rfl, hob1⟩
    · exact ⟨ob1, hl1, hob1⟩
  generalize hse : a.eval x = y at hr
  cases hr with
  | @own _ _ m _ _ off cap hm hb hn' hcap ho' =>
    by_cases e0 : len = 0
    · subst e0; exact none_ rfl ⟨_, _, hse⟩
    obtain ⟨ob0, hl0, hob⟩ := hH.h id m hm
    rw [hl] at hl0; cases hl0
    have hmsz : m.sz = sz := by rw [← hob.sz, h1]
    have helen := hob.n
    have hnc := hob.nc
    have hcap0 : cap ≠ 0 := by omega
    obtain rfl : off = (lo + m.o) * m.sz := ho'.resolve_right hcap0
    have hfl := zeros_flat hrz (sz := m.sz) (by rw [h2, hmsz]) len
    obtain ⟨c0, hc0, hfit, hnew⟩ := write_obj hob (hH.x id m hm) (n := lo) hfl (by simpa using h3)
    have hst := Blk.wr P ((lo + m.o) * m.sz) (List.replicate len z.cells.toList).flatten 0 c0 w hc0 (by simpa using hfit) hfl.one
    simp only [Nat.add_zero] at hst
    have hrunc : (Builtin.clear_ #[t] o.type #[.slice (some ⟨m.b, (lo + m.o) * m.sz, none⟩) len cap]).run P w = .ok (.tuple #[]) (w.setRow m.b (c0.toList.take ((lo + m.o) * m.sz) ++ (List.replicate len z.cells.toList).flatten ++ c0.toList.drop ((lo + m.o) * m.sz + (List.replicate len z.cells.toList).flatten.length)).toArray) := by
      obtain ⟨k, rfl⟩ : ∃ k, len = k + 1 := ⟨len - 1, by omega⟩
      simp only [Builtin.clear_, Sem.run_bind]
      simp [run_underlying ht, zeroValue, typeInfo, hi, hz', zeroCells_flat, hst]
    have hrun := run_clear_op (P := P) (w := w) ho hc ha hat (by rw [hse]; exact hrunc)
    obtain ⟨f1, f2, f3⟩ := write_holds (a := a) (cs := (c0.toList.take ((lo + m.o) * m.sz) ++ (List.replicate len z.cells.toList).flatten ++ c0.toList.drop ((lo + m.o) * m.sz + (List.replicate len z.cells.toList).flatten.length)).toArray) hH hσ hm hl hnew
    rw [List.length_replicate] at f3
    exact wp_value hrun (hk _ _ X μ f1.toK f2 f3 (.top _) (fun id h => .inl h))
  | own0 => exact none_ rfl ⟨_, _, hse⟩

def eraseM (μ : Mu) (id : Nat) : Mu := fun i => if i = id then none else μ i

theorem forget_rep {id : Nat} {y : AV} {u : Value} (h : Rep w X μ y u) : Rep w X (eraseM μ id) (y.ren (drop1 id)) u :=
  h.ren fun i j m e hm => by
    unfold drop1 at e
    split at e
    · cases e
    · rename_i hne
      cases e
      unfold eraseM
      rw [if_neg hne]; exact hm

theorem forget_flat {id sz : Nat} {xs : List (List AV)} {us : List Value} (h : FlatL w X μ sz xs us) : FlatL w X (eraseM μ id) sz (xs.map fun x => x.map fun c => c.ren (drop1 id)) us := by
  refine ⟨by simpa using h.len, h.one, fun i x hi => ?_⟩
  rw [List.getElem?_map] at hi
  obtain ⟨x0, hx0, rfl⟩ := Option.map_eq_some_iff.1 hi
  obtain ⟨h1, h2⟩ := h.at_ i x0 hx0
  refine ⟨by simpa using h1, fun j c hj => ?_⟩
  rw [List.getElem?_map] at hj
  obtain ⟨c0, hc0, rfl⟩ := Option.map_eq_some_iff.1 hj
  obtain ⟨u, hu, hr⟩ := h2 j c0 hc0
  exact ⟨u, hu, forget_rep hr⟩

/-- What an own row holds, in a line. -/
theorem obj_flat {ob : AObj} {m : MI} (hob : HObj w X μ ob m) {n : Nat} (hn : n ≤ ob.elems.length) : ∃ c, Blk w m.b m.t c ∧ c.size = (m.cap + m.o) * m.sz ∧ FlatL w X μ m.sz (ob.elems.take n) ((c.toList.drop (m.o * m.sz)).take (n * m.sz)) := by
  obtain ⟨c, hc, hs, hcells⟩ := hob.c
  have hmul : (n + m.o) * m.sz ≤ (m.cap + m.o) * m.sz := Nat.mul_le_mul_right _ (by have := hob.nc; have := hob.n; omega)
  rw [Nat.add_mul n] at hmul
  refine ⟨c, hc, hs, by rw [List.length_take, List.length_drop, List.length_take, Array.length_toList, Nat.min_eq_left (by omega), Nat.min_eq_left hn], fun u hu => ?_, fun i x hi => ?_⟩
  · obtain ⟨k, hk⟩ := List.getElem?_of_mem hu
    rw [List.getElem?_take] at hk
    split at hk
    · rename_i hklt
      rw [List.getElem?_drop, Array.getElem?_toList] at hk
      have hp : 0 < m.sz := Nat.pos_of_ne_zero (fun e => by rw [e] at hklt; simp at hklt)
      have h1 : k / m.sz < n := Nat.div_lt_of_lt_mul (by rw [Nat.mul_comm]; exact hklt)
      obtain ⟨h3, h4⟩ := hcells _ _ (List.getElem?_eq_getElem (show k / m.sz < ob.elems.length by omega))
      have h5 : k % m.sz < (ob.elems[k / m.sz]'(by omega)).length := by rw [h3]; exact Nat.mod_lt _ hp
      obtain ⟨u', hu', h6, _⟩ := h4 _ _ (List.getElem?_eq_getElem h5)
      rw [show (k / m.sz + m.o) * m.sz + k % m.sz = m.o * m.sz + k by rw [Nat.add_mul, Nat.add_right_comm, Nat.mul_comm (k / m.sz), Nat.div_add_mod, Nat.add_comm]] at hu'
      rw [hk] at hu'; cases hu'; exact h6
    · cases hk
  · rw [List.getElem?_take] at hi
    split at hi
    · rename_i hil
      obtain ⟨h3, h4⟩ := hcells _ _ hi
      refine ⟨h3, fun j c' hj => ?_⟩
      obtain ⟨u', hu', _, h7⟩ := h4 j c' hj
      have hjs : j < m.sz := by rw [← h3]; exact (List.getElem?_eq_some_iff.1 hj).1
      have hmul2 : (i + 1) * m.sz ≤ n * m.sz := Nat.mul_le_mul_right _ hil
      rw [Nat.add_mul] at hmul2
      rw [Nat.add_comm i, Nat.add_mul, Nat.add_assoc] at hu'
      exact ⟨u', by rw [List.getElem?_take, if_pos (by omega), List.getElem?_drop, Array.getElem?_toList]; exact hu', h7⟩
    · cases hi

/-- An append to a row of the call's own. -/
theorem l_append {st : ASt} (hH : Holds w X μ st.H) (hσ : RelS w X μ a st.σ) {c : Call} (ho : o.op = .call c) (hc : c.callee = .builtin .append) {s x : Operand} {t u e : TypeId} (ha : c.args.toList = [s, x]) (hat : c.argTypes.toList = [t, u]) (ht : P.underlying t = some (.slice e))
    {du : TypeDesc} (hu : P.underlying u = some du) (hdu : (∃ q, du = .slice q) ∨ du = .string) {i : TypeInfo} (hi : P.info? e = some i) (hsz : 0 < i.size) {zs : List AV} (hz : tzero P e = some zs) {s1 : SOpd} (hs1 : copd s = some s1)
    {id n : Nat} (he : ev st.σ s1 = .own id 0 n) {ob : AObj} (hl : lk st.H id = some ob) (h1 : ob.sz = i.size) (h2 : ob.t = e) (h3 : ob.box = false) (h4 : n ≤ ob.elems.length)
    {ys : List (List AV)} {vs : List Value} (hlx : ∀ w', (Builtin.lenOf (a.eval x)).run P w' = .ok ys.length w')
    (hfx : ∀ w', w'.heap = w.heap → (Builtin.firstCells i.size ys.length (a.eval x)).run P w' = .ok vs.toArray w') (hfl : FlatL w X μ i.size ys vs)
    (h63 : n + ys.length ≤ 140737488355328) (hb : (n + ys.length) * i.bytes ≤ 140737488355328) {r : AV × ASt}
    (hr : r = (if n + ys.length ≤ ob.elems.length ∧ (0 < n ∨ ys = []) then (.own id 0 (n + ys.length), { st with H := hput st.H id { ob with elems := ob.elems.take n ++ ys ++ ob.elems.drop (n + ys.length) } })
      else (.own id 0 (n + ys.length), { forget id st with H := hput (forget id st).H id { ob with elems := (ob.elems.take n ++ ys).map (fun x => x.map fun c => c.ren (drop1 id)), ver := ob.ver + 1 } }))) :
    Turns P o a w X μ st.H base r.1 r.2 := by
  intro K Q hk
  obtain ⟨i', z, hi', hz', hzs, hrz⟩ := tzero_spec (w := w) (X := X) (μ := μ) hz
  rw [hi] at hi'; cases hi'
  have hrs := hσ.ev hs1
  rw [he] at hrs
  have hvl : vs.length = ys.length * i.size := hfl.len
  -- the row that is new, or stays, with everything else forgotten
  have finish : ∀ (w1 : World) (X1 : Nat → Prop) (μ1 : Mu) (v1 : Value), ¬ (n + ys.length ≤ ob.elems.length ∧ (0 < n ∨ ys = [])) → Fr w X μ w1 X1 μ1 →
      w.heap.size ≤ w1.heap.size → (∀ b, b < w.heap.size → ¬ X b → w1.heap[b]? = w.heap[b]?) → (∀ b, b < w.heap.size → X1 b → X b) → (∀ k, k ≠ id → μ1 k = μ k) → (∀ k m, k ≠ id → μ k = some m → w1.heap[m.b]? = w.heap[m.b]?) →
      (∀ m, μ1 id = some m → X1 m.b ∧ (∀ k mk, k ≠ id → μ k = some mk → mk.b ≠ m.b) ∧ HObj w1 X1 μ1 ⟨e, i.size, false, (ob.elems.take n ++ ys).map (fun x => x.map fun c => c.ren (drop1 id)), ob.ver + 1⟩ m) → (∀ b, X1 b → b < w1.heap.size) →
      Rep w1 X1 μ1 (.own id 0 (n + ys.length)) v1 → (execOp a.eval o).run P w = .ok (.value v1) w1 → o.wp P a w K Q := by
    intro w1 X1 μ1 v1 hcond hfr g1 g2 g3 g4 g5 g6 g7 hrep hrun
    rw [if_neg hcond] at hr
    have hmu : ∀ k m, eraseM μ id k = some m → μ1 k = some m := by
      intro k m h
      unfold eraseM at h
      split at h
      · cases h
      · rename_i hne; rw [g4 k hne]; exact h
    have mv : ∀ {y : AV} {q : Value}, Rep w X μ y q → Rep w1 X1 μ1 (y.ren (drop1 id)) q := fun h => (forget_rep h).move g1 g2 g3 hmu
    refine wp_value hrun (hk v1 w1 X1 μ1 hfr.toK ?_ ?_ (by rw [hr]; exact hrep) (fun k h => by
      by_cases e : k = id
      · subst e; exact .inr (.inl ⟨ob, hl⟩)
      · rw [g4 k e] at h; exact .inl h))
    · rw [hr]
      refine ⟨by simpa [forget] using hσ.size, fun t' x' hx' => ?_⟩
      simp only [forget] at hx'
      rw [List.getElem?_map] at hx'
      obtain ⟨x0, hx0, rfl⟩ := Option.map_eq_some_iff.1 hx'
      obtain ⟨q, hq, hrq⟩ := hσ.v t' x0 hx0
      exact ⟨q, hq, mv hrq⟩
    · rw [hr]
      refine ⟨fun k m hm => ?_, fun k m hm => ?_, fun k k' m m' hm hm' e' => ?_, g7⟩
      · by_cases e' : k = id
        · subst e'; exact (g6 m hm).1
        · rw [g4 k e'] at hm; exact hfr.x1 _ (hH.lt _ (hH.x k m hm)) (hH.x k m hm)
      · simp only [lk_hput, forget, lk_map]
        by_cases e' : k = id
        · subst e'
          rw [if_pos rfl, hl]
          refine ⟨_, rfl, ?_⟩
          have := (g6 m hm).2.2
          rw [show ({ ob with elems := (ob.elems.take n ++ ys).map (fun x => x.map fun c => c.ren (drop1 k)), ver := ob.ver + 1 } : AObj) = ⟨e, i.size, false, (ob.elems.take n ++ ys).map (fun x => x.map fun c => c.ren (drop1 k)), ob.ver + 1⟩ by rw [← h1, ← h2, ← h3]]
          exact this
        · rw [if_neg e']
          rw [g4 k e'] at hm
          obtain ⟨ob1, hl1, hob1⟩ := hH.h k m hm
          rw [hl1]
          refine ⟨ob1.ren (drop1 id), rfl, ?_⟩
          obtain ⟨c1, hc1, hs1', hx1⟩ := hob1.c
          refine ⟨hob1.t, hob1.sz, hob1.box, hob1.ver, by simpa [AObj.ren] using hob1.n, hob1.nc, hob1.cm, hob1.pos, c1, hc1.eq (g5 k m e' hm), hs1', fun j x' hj => ?_⟩
          simp only [AObj.ren] at hj
          rw [List.getElem?_map] at hj
          obtain ⟨x0, hx0, rfl⟩ := Option.map_eq_some_iff.1 hj
          obtain ⟨q1, q2⟩ := hx1 j x0 hx0
          refine ⟨by simpa using q1, fun j' y hy => ?_⟩
          rw [List.getElem?_map] at hy
          obtain ⟨y0, hy0, rfl⟩ := Option.map_eq_some_iff.1 hy
          obtain ⟨q, hq, h5, h6⟩ := q2 j' y0 hy0
          exact ⟨q, hq, h5, mv h6⟩
      · by_cases e1 : k = id
        · by_cases e2 : k' = id
          · rw [e1, e2]
          · subst e1
            rw [g4 k' e2] at hm'
            exact absurd e'.symm ((g6 m hm).2.1 k' m' e2 hm')
        · by_cases e2 : k' = id
          · subst e2
            rw [g4 k e1] at hm
            exact absurd e' ((g6 m' hm').2.1 k m e1 hm)
          · rw [g4 k e1] at hm
            rw [g4 k' e2] at hm'
            exact hH.inj k k' m m' hm hm' e'
  have flat2 : ∀ {w1 : World} {X1 : Nat → Prop} {μ1 : Mu} {us : List Value}, FlatL w X μ i.size (ob.elems.take n) us → (∀ {y : AV} {q : Value}, Rep w X (eraseM μ id) y q → Rep w1 X1 μ1 y q) → FlatL w1 X1 μ1 i.size ((ob.elems.take n ++ ys).map fun x => x.map fun c => c.ren (drop1 id)) (us ++ vs) :=
    fun h mv => (forget_flat (h.append hfl)).move fun c q hq => mv hq
  -- a row that is made anew
  have anew : ∀ {A : Option Addr} {cap : Nat} {us : List Value}, a.eval s = .slice A n cap → ¬ (n + ys.length ≤ ob.elems.length ∧ (0 < n ∨ ys = [])) → cap < n + ys.length → FlatL w X μ i.size (ob.elems.take n) us →
      (∀ w', w'.heap = w.heap → (Builtin.firstCells i.size n (.slice A n cap)).run P w' = .ok us.toArray w') → o.wp P a w K Q := by
    intro A cap us hse hcond hcap hfl0 hfs
    have hge := grownCap_ge w (n + ys.length) cap e
    have hcm := grownCap_le_maxLen w (n + ys.length) cap e (by simp only [maxLen]; omega)
    have hrun := run_append_op (P := P) (w := w) ho hc ha hat (by rw [hse]; exact run_append_new ht hu hdu hi hz' hlx hfs hfx hcap h63 hb)
    have hlen : (ob.elems.take n).length = n := by simp; omega
    have hmb : ∀ k m, addM (eraseM μ id) id ⟨w.heap.size, i.size, n + ys.length, grownCap w (n + ys.length) cap e, e, false, ob.ver + 1, 0⟩ k = some m → (k = id ∧ m = ⟨w.heap.size, i.size, n + ys.length, grownCap w (n + ys.length) cap e, e, false, ob.ver + 1, 0⟩) ∨ (k ≠ id ∧ μ k = some m) := by
      intro k m h
      unfold addM at h
      by_cases e' : k = id
      · rw [if_pos e'] at h; cases h; exact .inl ⟨e', rfl⟩
      · rw [if_neg e'] at h; unfold eraseM at h; rw [if_neg e'] at h; exact .inr ⟨e', h⟩
    have hother : ∀ k, k ≠ id → addM (eraseM μ id) id ⟨w.heap.size, i.size, n + ys.length, grownCap w (n + ys.length) cap e, e, false, ob.ver + 1, 0⟩ k = μ k := by
      intro k e'; unfold addM eraseM; rw [if_neg e', if_neg e']
    have hlt : ∀ k m, μ k = some m → m.b < w.heap.size := fun k m hm => hH.lt _ (hH.x k m hm)
    have hver0 : ∀ m0, μ id = some m0 → m0.ver = ob.ver := by
      intro m0 hm0
      obtain ⟨ob0, hl0, hob0⟩ := hH.h id m0 hm0
      rw [hl] at hl0; cases hl0
      exact hob0.ver.symm
    refine finish _ (addX X w.heap.size) (addM (eraseM μ id) id ⟨w.heap.size, i.size, n + ys.length, grownCap w (n + ys.length) cap e, e, false, ob.ver + 1, 0⟩) _ hcond ?_ (by simp) (fun b hb' _ => heap_alloc_old w.drew _ b hb') (fun b hb' h => h.elim (fun h => h) (fun e' => by omega)) hother
      (fun k m _ hm => heap_alloc_old w.drew _ _ (hlt k m hm)) (fun m hm => ?_) (fun b h => h.elim (fun h => by have := hH.lt b h; simp; omega) (fun e' => by simp [e'])) ?_ hrun
    · exact ⟨rfl, rfl, rfl, by simp, fun b hb' _ => heap_alloc_old w.drew _ b hb', fun b _ h => .inl h, fun b hb' h => h.elim (fun h => h) (fun e' => by omega), fun k m hm => by
        by_cases e' : k = id
        · subst e'
          exact ⟨_, addM_self _ _ _, by show m.ver ≤ ob.ver + 1; rw [hver0 m hm]; omega, fun q => by exfalso; have : ob.ver + 1 = m.ver := q; rw [hver0 m hm] at this; omega⟩
        · exact ⟨m, by rw [hother k e']; exact hm, Nat.le_refl _, fun _ => rfl⟩, fun k m hm => by
        rcases hmb k m hm with ⟨_, rfl⟩ | ⟨_, h⟩
        · exact .inl (Nat.le_refl _)
        · exact .inr ⟨m, h, rfl⟩⟩
    · rcases hmb id m hm with ⟨_, rfl⟩ | ⟨h, _⟩
      · refine ⟨.inr rfl, fun k mk _ hmk e' => absurd (hlt k mk hmk) (by rw [e']; exact Nat.lt_irrefl _), ?_⟩
        refine (flat2 hfl0 fun hq => hq.move (by simp) (fun b hb' _ => heap_alloc_old w.drew _ b hb') (fun b hb' h => h.elim (fun h => h) (fun e' => by omega)) (fun k m h => by
          unfold eraseM at h; split at h
          · cases h
          · rename_i e'; rw [hother k e']; exact h)).obj (m := ⟨w.heap.size, i.size, n + ys.length, grownCap w (n + ys.length) cap e, e, false, ob.ver + 1, 0⟩) (.of (heap_alloc_new w.drew _)) ?_ ?_ rfl (by simp only [List.length_map, List.length_append, hlen]) hge hcm rfl hsz
        · simp only [Array.size_append, List.size_toArray, zero_size, hzs, hfl0.len, hvl, hlen, ← Nat.add_mul]
          congr 1; omega
        · simp only [Array.toList_append]; rw [Nat.zero_mul, List.drop_zero]; exact List.take_left
      · exact absurd rfl h
    · exact .own (addM_self _ id _) rfl (by simp) (by simp) (.inl (by simp))
  -- the row's cells written over in place
  have inPlace : ∀ (w1 : World) (v1 : Value), (n + ys.length ≤ ob.elems.length ∧ (0 < n ∨ ys = [])) → Fr w X μ w1 X μ → w.heap.size = w1.heap.size → (∀ b, b < w.heap.size → ¬ X b → w1.heap[b]? = w.heap[b]?) → (∀ k m, k ≠ id → μ k = some m → w1.heap[m.b]? = w.heap[m.b]?) →
      (∀ m, μ id = some m → HObj w1 X μ { ob with elems := ob.elems.take n ++ ys ++ ob.elems.drop (n + ys.length) } m) → Rep w1 X μ (.own id 0 (n + ys.length)) v1 → (execOp a.eval o).run P w = .ok (.value v1) w1 → o.wp P a w K Q := by
    intro w1 v1 hcond hfr g1 g2 g5 g6 hrep hrun
    rw [if_pos hcond] at hr
    have mv : ∀ {y : AV} {q : Value}, Rep w X μ y q → Rep w1 X μ y q := fun h => h.move (Nat.le_of_eq g1) g2 (fun _ _ h => h) (fun _ _ h => h)
    refine wp_value hrun (hk v1 w1 X μ hfr.toK ?_ ?_ (by rw [hr]; exact hrep) (fun k h => .inl h))
    · rw [hr]
      exact ⟨hσ.size, fun t' x' hx' => let ⟨q, hq, hrq⟩ := hσ.v t' x' hx'; ⟨q, hq, mv hrq⟩⟩
    · rw [hr]
      refine ⟨hH.x, fun k m hm => ?_, hH.inj, fun b hb' => by rw [← g1]; exact hH.lt b hb'⟩
      simp only [lk_hput]
      by_cases e' : k = id
      · subst e'
        rw [if_pos rfl, hl]
        exact ⟨_, rfl, g6 m hm⟩
      · rw [if_neg e']
        obtain ⟨ob1, hl1, hob1⟩ := hH.h k m hm
        exact ⟨ob1, hl1, hob1.move (Nat.le_of_eq g1) g2 (fun _ _ h => h) (fun _ _ h => h) (g5 k m e' hm)⟩
  have same : ys = [] → n = 0 → ({ ob with elems := ob.elems.take n ++ ys ++ ob.elems.drop (n + ys.length) } : AObj) = ob := by
    intro e1 e2; subst e1; subst e2; simp
  have nothing : ∀ {A : Option Addr}, ys = [] → n = 0 → a.eval s = .slice A n 0 → o.wp P a w K Q := by
    intro A e1 e2 hse
    have hvs : vs = [] := List.eq_nil_of_length_eq_zero (by rw [hvl, e1]; simp)
    have hlx0 : ∀ w', (Builtin.lenOf (a.eval x)).run P w' = .ok 0 w' := by intro w'; rw [hlx w', e1]; rfl
    have hfx0 : (Builtin.firstCells i.size 0 (a.eval x)).run P w = .ok #[] w := by have := hfx w rfl; rw [e1, hvs] at this; exact this
    have hrun := run_append_op (P := P) (w := w) ho hc ha hat (by rw [hse]; exact run_append_none ht hu hdu hi hlx0 hfx0 (by omega))
    refine inPlace w _ ⟨by rw [e1, e2]; simp, .inr e1⟩ .refl rfl (fun _ _ _ => rfl) (fun _ _ _ _ => rfl) (fun m hm => ?_) ?_ hrun
    · rw [same e1 e2]
      obtain ⟨ob0, hl0, hob0⟩ := hH.h id m hm
      rw [hl] at hl0; cases hl0
      exact hob0
    · rw [e1, e2]; exact .own0
  generalize hse : a.eval s = sv at hrs
  cases hrs with
  | @own0 _ _ _ A =>
    by_cases hy : ys = []
    · exact nothing hy rfl hse
    · have hpos : 0 < ys.length := List.length_pos_iff.2 hy
      refine anew hse (fun h => h.2.elim (fun h => by omega) hy) (by omega) (us := []) (by simp only [List.take_zero]; exact .nil) (fun w' _ => ?_)
      cases A <;> simp [Builtin.firstCells, loadCells, loadCellsFrom]
  | @own _ _ m _ _ off cap hm hbx hn' hcap ho' =>
    obtain ⟨ob0, hl0, hob⟩ := hH.h id m hm
    rw [hl] at hl0; cases hl0
    have hmsz : m.sz = i.size := by rw [← hob.sz, h1]
    have hmt : m.t = e := by rw [← hob.t, h2]
    subst hmt
    have helen := hob.n
    have hnc := hob.nc
    have hcap' : cap = m.cap := by omega
    obtain ⟨c0, hc0, hs0, hfl0⟩ := obj_flat hob h4
    rw [hmsz] at hfl0 hs0
    by_cases hz0 : cap = 0
    · have hn0 : n = 0 := by omega
      by_cases hy : ys = []
      · exact nothing hy hn0 (by rw [hse, hz0])
      · have hpos : 0 < ys.length := List.length_pos_iff.2 hy
        subst hn0
        refine anew (A := some ⟨m.b, off, none⟩) (cap := cap) hse (fun h => h.2.elim (fun h => by omega) hy) (by omega) (us := []) (by simp only [List.take_zero]; exact .nil) (fun w' _ => ?_)
        simp [Builtin.firstCells, loadCells, loadCellsFrom]
    · obtain rfl : off = m.o * i.size := by rcases ho' with h | h <;> first | (rw [h, hmsz, Nat.zero_add]) | omega
      have hna : (n + m.o) * i.size = m.o * i.size + n * i.size := by rw [Nat.add_comm n, Nat.add_mul]
      have hmulcap : (n + m.o) * i.size ≤ (m.cap + m.o) * i.size := Nat.mul_le_mul_right _ (by omega)
      have htl : (c0.toList.take ((n + m.o) * i.size)).length = (n + m.o) * i.size := by simp; omega
      by_cases hroom : n + ys.length ≤ cap
      · have hmul2 : (n + m.o + ys.length) * i.size ≤ (m.cap + m.o) * i.size := Nat.mul_le_mul_right _ (by omega)
        rw [Nat.add_mul] at hmul2
        have hc0' : Blk w m.b m.t c0 := hc0
        have hrun := run_append_op (P := P) (w := w) ho hc ha hat (by rw [hse]; exact run_append_fits ht hu hdu hi hc0' hlx (hfx w rfl) hfl.one hroom (by omega))
        rw [← hna] at hrun
        have hget : ∀ k, (c0.toList.take ((n + m.o) * i.size) ++ vs ++ c0.toList.drop ((n + m.o) * i.size + vs.length)).toArray[k]? = if (n + m.o) * i.size ≤ k ∧ k < (n + m.o) * i.size + vs.length then vs[k - (n + m.o) * i.size]? else c0[k]? := by
          intro k
          simp only [List.getElem?_toArray]
          by_cases q1 : k < (n + m.o) * i.size
          · rw [List.append_assoc, List.getElem?_append_left (by omega), List.getElem?_take, if_pos q1, if_neg (by omega)]; simp
          · by_cases q2 : k < (n + m.o) * i.size + vs.length
            · rw [List.append_assoc, List.getElem?_append_right (by omega), List.getElem?_append_left (by omega), if_pos (by omega), htl]
            · rw [List.append_assoc, List.getElem?_append_right (by omega), List.getElem?_append_right (by omega), List.getElem?_drop, if_neg (by omega), Array.getElem?_toList, htl]
              congr 1; omega
        have hsize : (c0.toList.take ((n + m.o) * i.size) ++ vs ++ c0.toList.drop ((n + m.o) * i.size + vs.length)).toArray.size = (m.cap + m.o) * i.size := by
          simp only [List.size_toArray, List.length_append, htl, List.length_drop, Array.length_toList]; omega
        have hXm := hH.x id m hm
        have g2 : ∀ b, b < w.heap.size → ¬ X b → (w.setRow m.b (c0.toList.take ((n + m.o) * i.size) ++ vs ++ c0.toList.drop ((n + m.o) * i.size + vs.length)).toArray).heap[b]? = w.heap[b]? := fun b _ hnx => setRow_other w m.b b _ (fun e' => hnx (e' ▸ hXm))
        have g5 : ∀ k mk, k ≠ id → μ k = some mk → (w.setRow m.b (c0.toList.take ((n + m.o) * i.size) ++ vs ++ c0.toList.drop ((n + m.o) * i.size + vs.length)).toArray).heap[mk.b]? = w.heap[mk.b]? := fun k mk hne hmk => setRow_other w m.b mk.b _ (fun e' => hne (hH.inj _ _ _ _ hmk hm e'))
        by_cases hcond : n + ys.length ≤ ob.elems.length ∧ (0 < n ∨ ys = [])
        · refine inPlace _ _ hcond (setRow_fr hm rfl (fun _ m h => ⟨m, h, Nat.le_refl _, fun _ => rfl⟩) (fun j m0 h => ⟨m0, h, rfl⟩)) (by simp) g2 g5 (fun m' hm' => ?_) ?_ hrun
          · rw [hm] at hm'; cases hm'
            obtain ⟨c1, hc1, hs1', hcells⟩ := hob.c
            cases hc0.uniq hc1
            have mv : ∀ {y : AV} {q : Value}, Rep w X μ y q → Rep (w.setRow m.b (c0.toList.take ((n + m.o) * i.size) ++ vs ++ c0.toList.drop ((n + m.o) * i.size + vs.length)).toArray) X μ y q := fun h => h.move (by simp) g2 (fun _ _ h => h) (fun _ _ h => h)
            refine ⟨hob.t, hob.sz, hob.box, hob.ver, by simp; omega, hob.nc, hob.cm, hob.pos, _, hc0.setSeg (by omega), by rw [hsize, hmsz], fun j x' hj => ?_⟩
            have hold : ∀ y', ob.elems[j]? = some y' → (j < n ∨ n + ys.length ≤ j) → y'.length = m.sz ∧ ∀ (j' : Nat) (y : AV), y'[j']? = some y → ∃ q : Value, (c0.toList.take ((n + m.o) * i.size) ++ vs ++ c0.toList.drop ((n + m.o) * i.size + vs.length)).toArray[(j + m.o) * m.sz + j']? = some q ∧ q.oneCell' = true ∧ Rep (w.setRow m.b (c0.toList.take ((n + m.o) * i.size) ++ vs ++ c0.toList.drop ((n + m.o) * i.size + vs.length)).toArray) X μ y q := by
              intro y' hy' hrange
              obtain ⟨q1, q2⟩ := hcells j y' hy'
              refine ⟨q1, fun j' y hy => ?_⟩
              obtain ⟨q, hq, q3, q4⟩ := q2 j' y hy
              refine ⟨q, ?_, q3, mv q4⟩
              have hj' : j' < m.sz := by rw [← q1]; exact (List.getElem?_eq_some_iff.1 hy).1
              rw [hget, if_neg ?_]
              · exact hq
              · rw [hmsz] at hj' ⊢
                rcases hrange with hlt | hge
                · have : (j + m.o + 1) * i.size ≤ (n + m.o) * i.size := Nat.mul_le_mul_right _ (by omega)
                  rw [Nat.add_mul] at this
                  omega
                · have : (n + m.o + ys.length) * i.size ≤ (j + m.o) * i.size := Nat.mul_le_mul_right _ (by omega)
                  rw [Nat.add_mul] at this
                  omega
            by_cases q1 : j < n
            · refine hold x' ?_ (.inl q1)
              rw [List.append_assoc, List.getElem?_append_left (by simp; omega), List.getElem?_take, if_pos q1] at hj
              exact hj
            · by_cases q2 : j < n + ys.length
              · rw [List.append_assoc, List.getElem?_append_right (by simp; omega), List.getElem?_append_left (by simp; omega), show j - (ob.elems.take n).length = j - n by simp; omega] at hj
                obtain ⟨q3, q4⟩ := hfl.at_ _ x' hj
                refine ⟨by rw [q3, hmsz], fun j' y hy => ?_⟩
                obtain ⟨q, hq, q5⟩ := q4 j' y hy
                refine ⟨q, ?_, hfl.one q (List.mem_of_getElem? hq), mv q5⟩
                have hlt := (List.getElem?_eq_some_iff.1 hq).1
                have e' : (j + m.o) * i.size = (n + m.o) * i.size + (j - n) * i.size := by rw [← Nat.add_mul]; congr 1; omega
                rw [hget, hmsz, if_pos (by omega), ← hq]
                congr 1; omega
              · refine hold x' ?_ (.inr (by omega))
                rw [List.append_assoc, List.getElem?_append_right (by simp; omega), List.getElem?_append_right (by simp; omega), List.getElem?_drop] at hj
                rw [← hj]; congr 1; simp; omega
          · rw [hcap']
            exact .own hm hbx (by omega) (by simp) (.inl (by rw [Nat.zero_add, hmsz]))
        · have hother : ∀ k, k ≠ id → addM (eraseM μ id) id { m with n := n + ys.length, ver := ob.ver + 1 } k = μ k := by
            intro k e'; unfold addM eraseM; rw [if_neg e', if_neg e']
          have hself : addM (eraseM μ id) id { m with n := n + ys.length, ver := ob.ver + 1 } id = some { m with n := n + ys.length, ver := ob.ver + 1 } := addM_self _ _ _
          have hlen : (ob.elems.take n).length = n := by simp; omega
          refine finish _ X (addM (eraseM μ id) id { m with n := n + ys.length, ver := ob.ver + 1 }) _ hcond ?_ (by simp) g2 (fun _ _ h => h) hother g5 (fun m' hm' => ?_) (fun b h => by simpa using hH.lt b h) ?_ hrun
          · refine setRow_fr hm rfl (fun k m0 h => ?_) (fun k m0 h => ?_)
            · by_cases e' : k = id
              · subst e'
                rw [hm] at h; cases h
                exact ⟨_, hself, by show m.ver ≤ ob.ver + 1; rw [← hob.ver]; omega, fun q => by exfalso; have : ob.ver + 1 = m.ver := q; rw [← hob.ver] at this; omega⟩
              · exact ⟨m0, by rw [hother k e']; exact h, Nat.le_refl _, fun _ => rfl⟩
            · by_cases e' : k = id
              · subst e'; rw [hself] at h; cases h; exact ⟨m, hm, rfl⟩
              · rw [hother k e'] at h; exact ⟨m0, h, rfl⟩
          · rw [hself] at hm'; cases hm'
            refine ⟨hXm, fun k mk hne hmk e' => hne (hH.inj _ _ _ _ hmk hm e'), ?_⟩
            have := (flat2 (μ1 := addM (eraseM μ id) id { m with n := n + ys.length, ver := ob.ver + 1 }) hfl0 fun hq => hq.move (by simp) g2 (fun _ _ h => h) (fun k m0 h => by
              unfold eraseM at h; split at h
              · cases h
              · rename_i e'; rw [hother k e']; exact h)).obj (m := { m with n := n + ys.length, ver := ob.ver + 1 }) (c := (c0.toList.take ((n + m.o) * i.size) ++ vs ++ c0.toList.drop ((n + m.o) * i.size + vs.length)).toArray) (by
                exact hc0.setSeg (by omega)) (by rw [hsize]) (by
                  simp only [List.toList_toArray]
                  have hz : (c0.toList.take ((n + m.o) * i.size)).drop (m.o * i.size) = (c0.toList.drop (m.o * i.size)).take (n * i.size) := by rw [List.drop_take, hna, Nat.add_sub_cancel_left]
                  rw [List.append_assoc, List.drop_append_of_le_length (by rw [htl, hna]; omega), hz, ← List.append_assoc]
                  exact List.take_left) hmsz (by simp only [List.length_map, List.length_append, hlen]) (by show n + ys.length ≤ m.cap; omega) hob.cm hbx hsz
            exact this
          · rw [hcap']
            exact .own (m := { m with n := n + ys.length, ver := ob.ver + 1 }) hself hbx (by show 0 + (n + ys.length) ≤ n + ys.length; omega) (by simp) (.inl (by show m.o * i.size = (0 + m.o) * m.sz; rw [Nat.zero_add, hmsz]))
      · refine anew (A := some ⟨m.b, m.o * i.size, none⟩) (cap := cap) hse (fun h => by omega) (by omega) hfl0 (fun w' hw => ?_)
        exact run_firstCells_some w' i.size n ⟨m.b, m.o * i.size, none⟩ n cap _ (by rw [List.length_take, List.length_drop, Array.length_toList]; omega) (fun j u hj => by
          rw [List.getElem?_take] at hj
          split at hj
          · rw [List.getElem?_drop, Array.getElem?_toList] at hj
            rw [add_none, (hc0.eq (by rw [hw])).cell]
            exact hj
          · cases hj)

/-- An object from one of its elements on. -/
theorem HObj.rebase {ob : AObj} {m : MI} (h : HObj w X μ ob m) {lo : Nat} (hlo : lo ≤ ob.elems.length) : HObj w X μ { ob with elems := ob.elems.drop lo } { m with n := m.n - lo, cap := m.cap - lo, o := m.o + lo } := by
  obtain ⟨c, hc, hs, hx⟩ := h.c
  have h1 := h.n
  have h2 := h.nc
  have h3 := h.cm
  refine ⟨h.t, h.sz, h.box, h.ver, by simp only [List.length_drop]; omega, by show m.n - lo ≤ m.cap - lo; omega, by show m.cap - lo + (m.o + lo) ≤ maxLen; omega, h.pos, c, hc, by rw [hs]; show (m.cap + m.o) * m.sz = (m.cap - lo + (m.o + lo)) * m.sz; congr 1; omega, fun i x hi => ?_⟩
  simp only [List.getElem?_drop] at hi
  obtain ⟨q1, q2⟩ := hx _ x hi
  refine ⟨q1, fun j y hy => ?_⟩
  obtain ⟨v, hv, q3⟩ := q2 j y hy
  refine ⟨v, ?_, q3⟩
  rw [← hv]
  show c[(i + (m.o + lo)) * m.sz + j]? = _
  congr 3
  omega

/-- An append to a row that begins behind its object's begin. -/
theorem l_append2 {st : ASt} (hH : Holds w X μ st.H) (hσ : RelS w X μ a st.σ) {c : Call} (ho : o.op = .call c) (hc : c.callee = .builtin .append) {s x : Operand} {t u e : TypeId} (ha : c.args.toList = [s, x]) (hat : c.argTypes.toList = [t, u]) (ht : P.underlying t = some (.slice e))
    {du : TypeDesc} (hu : P.underlying u = some du) (hdu : (∃ q, du = .slice q) ∨ du = .string) {i : TypeInfo} (hi : P.info? e = some i) (hsz : 0 < i.size) {zs : List AV} (hz : tzero P e = some zs) {s1 : SOpd} (hs1 : copd s = some s1)
    {id lo n : Nat} (he : ev st.σ s1 = .own id lo n) {ob : AObj} (hl : lk st.H id = some ob) (h1 : ob.sz = i.size) (h2 : ob.t = e) (h3 : ob.box = false) (h4 : lo + n ≤ ob.elems.length)
    {ys : List (List AV)} {vs : List Value} (hlx : ∀ w', (Builtin.lenOf (a.eval x)).run P w' = .ok ys.length w')
    (hfx : ∀ w', w'.heap = w.heap → (Builtin.firstCells i.size ys.length (a.eval x)).run P w' = .ok vs.toArray w') (hfl : FlatL w X μ i.size ys vs)
    (h63 : n + ys.length ≤ 140737488355328) (hb : (n + ys.length) * i.bytes ≤ 140737488355328) (hy : ys ≠ []) {r : AV × ASt}
    (hr : r = (.own id 0 (n + ys.length), { forget id st with H := hput (forget id st).H id { ob with elems := ((ob.elems.drop lo).take n ++ ys).map (fun x => x.map fun c => c.ren (drop1 id)), ver := ob.ver + 1 } })) :
    Turns P o a w X μ st.H base r.1 r.2 := by
  intro K Q hk
  obtain ⟨i', z, hi', hz', hzs, hrz⟩ := tzero_spec (w := w) (X := X) (μ := μ) hz
  rw [hi] at hi'; cases hi'
  have hrs := hσ.ev hs1
  rw [he] at hrs
  have hvl : vs.length = ys.length * i.size := hfl.len
  -- the row that is new, or stays, with everything else forgotten
  have finish : ∀ (w1 : World) (X1 : Nat → Prop) (μ1 : Mu) (v1 : Value), Fr w X μ w1 X1 μ1 →
      w.heap.size ≤ w1.heap.size → (∀ b, b < w.heap.size → ¬ X b → w1.heap[b]? = w.heap[b]?) → (∀ b, b < w.heap.size → X1 b → X b) → (∀ k, k ≠ id → μ1 k = μ k) → (∀ k m, k ≠ id → μ k = some m → w1.heap[m.b]? = w.heap[m.b]?) →
      (∀ m, μ1 id = some m → X1 m.b ∧ (∀ k mk, k ≠ id → μ k = some mk → mk.b ≠ m.b) ∧ HObj w1 X1 μ1 ⟨e, i.size, false, ((ob.elems.drop lo).take n ++ ys).map (fun x => x.map fun c => c.ren (drop1 id)), ob.ver + 1⟩ m) → (∀ b, X1 b → b < w1.heap.size) →
      Rep w1 X1 μ1 (.own id 0 (n + ys.length)) v1 → (execOp a.eval o).run P w = .ok (.value v1) w1 → o.wp P a w K Q := by
    intro w1 X1 μ1 v1 hfr g1 g2 g3 g4 g5 g6 g7 hrep hrun
    have hmu : ∀ k m, eraseM μ id k = some m → μ1 k = some m := by
      intro k m h
      unfold eraseM at h
      split at h
      · cases h
      · rename_i hne; rw [g4 k hne]; exact h
    have mv : ∀ {y : AV} {q : Value}, Rep w X μ y q → Rep w1 X1 μ1 (y.ren (drop1 id)) q := fun h => (forget_rep h).move g1 g2 g3 hmu
    refine wp_value hrun (hk v1 w1 X1 μ1 hfr.toK ?_ ?_ (by rw [hr]; exact hrep) (fun k h => by
      by_cases e : k = id
      · subst e; exact .inr (.inl ⟨ob, hl⟩)
      · rw [g4 k e] at h; exact .inl h))
    · rw [hr]
      refine ⟨by simpa [forget] using hσ.size, fun t' x' hx' => ?_⟩
      simp only [forget] at hx'
      rw [List.getElem?_map] at hx'
      obtain ⟨x0, hx0, rfl⟩ := Option.map_eq_some_iff.1 hx'
      obtain ⟨q, hq, hrq⟩ := hσ.v t' x0 hx0
      exact ⟨q, hq, mv hrq⟩
    · rw [hr]
      refine ⟨fun k m hm => ?_, fun k m hm => ?_, fun k k' m m' hm hm' e' => ?_, g7⟩
      · by_cases e' : k = id
        · subst e'; exact (g6 m hm).1
        · rw [g4 k e'] at hm; exact hfr.x1 _ (hH.lt _ (hH.x k m hm)) (hH.x k m hm)
      · simp only [lk_hput, forget, lk_map]
        by_cases e' : k = id
        · subst e'
          rw [if_pos rfl, hl]
          refine ⟨_, rfl, ?_⟩
          have := (g6 m hm).2.2
          rw [show ({ ob with elems := ((ob.elems.drop lo).take n ++ ys).map (fun x => x.map fun c => c.ren (drop1 k)), ver := ob.ver + 1 } : AObj) = ⟨e, i.size, false, ((ob.elems.drop lo).take n ++ ys).map (fun x => x.map fun c => c.ren (drop1 k)), ob.ver + 1⟩ by rw [← h1, ← h2, ← h3]]
          exact this
        · rw [if_neg e']
          rw [g4 k e'] at hm
          obtain ⟨ob1, hl1, hob1⟩ := hH.h k m hm
          rw [hl1]
          refine ⟨ob1.ren (drop1 id), rfl, ?_⟩
          obtain ⟨c1, hc1, hs1', hx1⟩ := hob1.c
          refine ⟨hob1.t, hob1.sz, hob1.box, hob1.ver, by simpa [AObj.ren] using hob1.n, hob1.nc, hob1.cm, hob1.pos, c1, hc1.eq (g5 k m e' hm), hs1', fun j x' hj => ?_⟩
          simp only [AObj.ren] at hj
          rw [List.getElem?_map] at hj
          obtain ⟨x0, hx0, rfl⟩ := Option.map_eq_some_iff.1 hj
          obtain ⟨q1, q2⟩ := hx1 j x0 hx0
          refine ⟨by simpa using q1, fun j' y hy => ?_⟩
          rw [List.getElem?_map] at hy
          obtain ⟨y0, hy0, rfl⟩ := Option.map_eq_some_iff.1 hy
          obtain ⟨q, hq, h5, h6⟩ := q2 j' y0 hy0
          exact ⟨q, hq, h5, mv h6⟩
      · by_cases e1 : k = id
        · by_cases e2 : k' = id
          · rw [e1, e2]
          · subst e1
            rw [g4 k' e2] at hm'
            exact absurd e'.symm ((g6 m hm).2.1 k' m' e2 hm')
        · by_cases e2 : k' = id
          · subst e2
            rw [g4 k e1] at hm
            exact absurd e' ((g6 m' hm').2.1 k m e1 hm)
          · rw [g4 k e1] at hm
            rw [g4 k' e2] at hm'
            exact hH.inj k k' m m' hm hm' e'
  have flat2 : ∀ {w1 : World} {X1 : Nat → Prop} {μ1 : Mu} {us : List Value}, FlatL w X μ i.size ((ob.elems.drop lo).take n) us → (∀ {y : AV} {q : Value}, Rep w X (eraseM μ id) y q → Rep w1 X1 μ1 y q) → FlatL w1 X1 μ1 i.size (((ob.elems.drop lo).take n ++ ys).map fun x => x.map fun c => c.ren (drop1 id)) (us ++ vs) :=
    fun h mv => (forget_flat (h.append hfl)).move fun c q hq => mv hq
  -- a row that is made anew
  have anew : ∀ {A : Option Addr} {cap : Nat} {us : List Value}, a.eval s = .slice A n cap → cap < n + ys.length → FlatL w X μ i.size ((ob.elems.drop lo).take n) us →
      (∀ w', w'.heap = w.heap → (Builtin.firstCells i.size n (.slice A n cap)).run P w' = .ok us.toArray w') → o.wp P a w K Q := by
    intro A cap us hse hcap hfl0 hfs
    have hge := grownCap_ge w (n + ys.length) cap e
    have hcm := grownCap_le_maxLen w (n + ys.length) cap e (by simp only [maxLen]; omega)
    have hrun := run_append_op (P := P) (w := w) ho hc ha hat (by rw [hse]; exact run_append_new ht hu hdu hi hz' hlx hfs hfx hcap h63 hb)
    have hlen : ((ob.elems.drop lo).take n).length = n := by simp; omega
    have hmb : ∀ k m, addM (eraseM μ id) id ⟨w.heap.size, i.size, n + ys.length, grownCap w (n + ys.length) cap e, e, false, ob.ver + 1, 0⟩ k = some m → (k = id ∧ m = ⟨w.heap.size, i.size, n + ys.length, grownCap w (n + ys.length) cap e, e, false, ob.ver + 1, 0⟩) ∨ (k ≠ id ∧ μ k = some m) := by
      intro k m h
      unfold addM at h
      by_cases e' : k = id
      · rw [if_pos e'] at h; cases h; exact .inl ⟨e', rfl⟩
      · rw [if_neg e'] at h; unfold eraseM at h; rw [if_neg e'] at h; exact .inr ⟨e', h⟩
    have hother : ∀ k, k ≠ id → addM (eraseM μ id) id ⟨w.heap.size, i.size, n + ys.length, grownCap w (n + ys.length) cap e, e, false, ob.ver + 1, 0⟩ k = μ k := by
      intro k e'; unfold addM eraseM; rw [if_neg e', if_neg e']
    have hlt : ∀ k m, μ k = some m → m.b < w.heap.size := fun k m hm => hH.lt _ (hH.x k m hm)
    have hver0 : ∀ m0, μ id = some m0 → m0.ver = ob.ver := by
      intro m0 hm0
      obtain ⟨ob0, hl0, hob0⟩ := hH.h id m0 hm0
      rw [hl] at hl0; cases hl0
      exact hob0.ver.symm
    refine finish _ (addX X w.heap.size) (addM (eraseM μ id) id ⟨w.heap.size, i.size, n + ys.length, grownCap w (n + ys.length) cap e, e, false, ob.ver + 1, 0⟩) _ ?_ (by simp) (fun b hb' _ => heap_alloc_old w.drew _ b hb') (fun b hb' h => h.elim (fun h => h) (fun e' => by omega)) hother
      (fun k m _ hm => heap_alloc_old w.drew _ _ (hlt k m hm)) (fun m hm => ?_) (fun b h => h.elim (fun h => by have := hH.lt b h; simp; omega) (fun e' => by simp [e'])) ?_ hrun
    · exact ⟨rfl, rfl, rfl, by simp, fun b hb' _ => heap_alloc_old w.drew _ b hb', fun b _ h => .inl h, fun b hb' h => h.elim (fun h => h) (fun e' => by omega), fun k m hm => by
        by_cases e' : k = id
        · subst e'
          exact ⟨_, addM_self _ _ _, by show m.ver ≤ ob.ver + 1; rw [hver0 m hm]; omega, fun q => by exfalso; have : ob.ver + 1 = m.ver := q; rw [hver0 m hm] at this; omega⟩
        · exact ⟨m, by rw [hother k e']; exact hm, Nat.le_refl _, fun _ => rfl⟩, fun k m hm => by
        rcases hmb k m hm with ⟨_, rfl⟩ | ⟨_, h⟩
        · exact .inl (Nat.le_refl _)
        · exact .inr ⟨m, h, rfl⟩⟩
    · rcases hmb id m hm with ⟨_, rfl⟩ | ⟨h, _⟩
      · refine ⟨.inr rfl, fun k mk _ hmk e' => absurd (hlt k mk hmk) (by rw [e']; exact Nat.lt_irrefl _), ?_⟩
        refine (flat2 hfl0 fun hq => hq.move (by simp) (fun b hb' _ => heap_alloc_old w.drew _ b hb') (fun b hb' h => h.elim (fun h => h) (fun e' => by omega)) (fun k m h => by
          unfold eraseM at h; split at h
          · cases h
          · rename_i e'; rw [hother k e']; exact h)).obj (m := ⟨w.heap.size, i.size, n + ys.length, grownCap w (n + ys.length) cap e, e, false, ob.ver + 1, 0⟩) (.of (heap_alloc_new w.drew _)) ?_ ?_ rfl (by simp only [List.length_map, List.length_append, hlen]) hge hcm rfl hsz
        · simp only [Array.size_append, List.size_toArray, zero_size, hzs, hfl0.len, hvl, hlen, ← Nat.add_mul]
          congr 1; omega
        · simp only [Array.toList_append]; rw [Nat.zero_mul, List.drop_zero]; exact List.take_left
      · exact absurd rfl h
    · exact .own (addM_self _ id _) rfl (by simp) (by simp) (.inl (by simp))
  have hpos : 0 < ys.length := List.length_pos_iff.2 hy
  generalize hse : a.eval s = sv at hrs
  cases hrs with
  | @own0 _ _ _ A =>
    refine anew hse (by omega) (us := []) (by simp only [List.take_zero]; exact .nil) (fun w' _ => ?_)
    cases A <;> simp [Builtin.firstCells, loadCells, loadCellsFrom]
  | @own _ _ m0 _ _ off cap hm hbx hn' hcap ho' =>
    obtain ⟨ob0, hl0, hob00⟩ := hH.h id m0 hm
    rw [hl] at hl0; cases hl0
    have hob := hob00.rebase (lo := lo) (by omega)
    generalize hmdef : ({ m0 with n := m0.n - lo, cap := m0.cap - lo, o := m0.o + lo } : MI) = m at hob
    have hmb0 : m.b = m0.b := by rw [← hmdef]
    have hmv0 : m.ver = m0.ver := by rw [← hmdef]
    have hmbx : m.box = m0.box := by rw [← hmdef]
    have hmsz : m.sz = i.size := by rw [← hob.sz, h1]
    have hmsz0 : m0.sz = i.size := by rw [← hob00.sz, h1]
    have hmt : m.t = e := by rw [← hob.t, h2]
    subst hmt
    have helen := hob.n
    simp only [] at helen
    have hnc := hob.nc
    have hcap' : cap = m.cap := by rw [← hmdef]; exact hcap
    have h4' : n ≤ (ob.elems.drop lo).length := by rw [List.length_drop]; omega
    obtain ⟨c0, hc0, hs0, hfl0⟩ := obj_flat hob h4'
    simp only [] at hfl0
    rw [hmsz] at hfl0 hs0
    by_cases hz0 : cap = 0
    · have hn0 : n = 0 := by omega
      subst hn0
      refine anew (A := some ⟨m0.b, off, none⟩) (cap := cap) hse (by omega) (us := []) (by simp only [List.take_zero]; exact .nil) (fun w' _ => ?_)
      simp [Builtin.firstCells, loadCells, loadCellsFrom]
    · obtain rfl : off = m.o * i.size := by
        rcases ho' with h | h
        · rw [h, hmsz0, ← hmdef, Nat.add_comm lo]
        · omega
      rw [← hmb0] at hse
      have hna : (n + m.o) * i.size = m.o * i.size + n * i.size := by rw [Nat.add_comm n, Nat.add_mul]
      have hmulcap : (n + m.o) * i.size ≤ (m.cap + m.o) * i.size := Nat.mul_le_mul_right _ (by omega)
      have htl : (c0.toList.take ((n + m.o) * i.size)).length = (n + m.o) * i.size := by simp; omega
      by_cases hroom : n + ys.length ≤ cap
      · have hmul2 : (n + m.o + ys.length) * i.size ≤ (m.cap + m.o) * i.size := Nat.mul_le_mul_right _ (by omega)
        rw [Nat.add_mul] at hmul2
        have hc0' : Blk w m.b m.t c0 := hc0
        have hrun := run_append_op (P := P) (w := w) ho hc ha hat (by rw [hse]; exact run_append_fits ht hu hdu hi hc0' hlx (hfx w rfl) hfl.one hroom (by omega))
        rw [← hna] at hrun
        have hsize : (c0.toList.take ((n + m.o) * i.size) ++ vs ++ c0.toList.drop ((n + m.o) * i.size + vs.length)).toArray.size = (m.cap + m.o) * i.size := by
          simp only [List.size_toArray, List.length_append, htl, List.length_drop, Array.length_toList]; omega
        have hXm : X m.b := by rw [hmb0]; exact hH.x id m0 hm
        have g2 : ∀ b, b < w.heap.size → ¬ X b → (w.setRow m.b (c0.toList.take ((n + m.o) * i.size) ++ vs ++ c0.toList.drop ((n + m.o) * i.size + vs.length)).toArray).heap[b]? = w.heap[b]? := fun b _ hnx => setRow_other w m.b b _ (fun e' => hnx (e' ▸ hXm))
        have g5 : ∀ k mk, k ≠ id → μ k = some mk → (w.setRow m.b (c0.toList.take ((n + m.o) * i.size) ++ vs ++ c0.toList.drop ((n + m.o) * i.size + vs.length)).toArray).heap[mk.b]? = w.heap[mk.b]? := fun k mk hne hmk => setRow_other w m.b mk.b _ (fun e' => hne (hH.inj _ _ _ _ hmk hm (e'.trans hmb0)))
        have hother : ∀ k, k ≠ id → addM (eraseM μ id) id { m with n := n + ys.length, ver := ob.ver + 1 } k = μ k := by
          intro k e'; unfold addM eraseM; rw [if_neg e', if_neg e']
        have hself : addM (eraseM μ id) id { m with n := n + ys.length, ver := ob.ver + 1 } id = some { m with n := n + ys.length, ver := ob.ver + 1 } := addM_self _ _ _
        have hlen : ((ob.elems.drop lo).take n).length = n := by rw [List.length_take]; omega
        have hobv := hob00.ver
        refine finish _ X (addM (eraseM μ id) id { m with n := n + ys.length, ver := ob.ver + 1 }) _ ?_ (by simp) g2 (fun _ _ h => h) hother g5 (fun m' hm' => ?_) (fun b h => by simpa using hH.lt b h) ?_ hrun
        · refine setRow_fr hm hmb0.symm (fun k m0' h => ?_) (fun k m0' h => ?_)
          · by_cases e' : k = id
            · subst e'
              rw [hm] at h; cases h
              exact ⟨_, hself, by show m0.ver ≤ ob.ver + 1; omega, fun q => by exfalso; have : ob.ver + 1 = m0.ver := q; omega⟩
            · exact ⟨m0', by rw [hother k e']; exact h, Nat.le_refl _, fun _ => rfl⟩
          · by_cases e' : k = id
            · subst e'; rw [hself] at h; cases h; exact ⟨m0, hm, hmb0.symm⟩
            · rw [hother k e'] at h; exact ⟨m0', h, rfl⟩
        · rw [hself] at hm'; cases hm'
          refine ⟨hXm, fun k mk hne hmk e' => hne (hH.inj _ _ _ _ hmk hm (e'.trans hmb0)), ?_⟩
          have := (flat2 (μ1 := addM (eraseM μ id) id { m with n := n + ys.length, ver := ob.ver + 1 }) hfl0 fun hq => hq.move (by simp) g2 (fun _ _ h => h) (fun k m0 h => by
            unfold eraseM at h; split at h
            · cases h
            · rename_i e'; rw [hother k e']; exact h)).obj (m := { m with n := n + ys.length, ver := ob.ver + 1 }) (c := (c0.toList.take ((n + m.o) * i.size) ++ vs ++ c0.toList.drop ((n + m.o) * i.size + vs.length)).toArray) (by
              exact hc0.setSeg (by omega)) (by rw [hsize]) (by
                simp only [List.toList_toArray]
                have hz : (c0.toList.take ((n + m.o) * i.size)).drop (m.o * i.size) = (c0.toList.drop (m.o * i.size)).take (n * i.size) := by rw [List.drop_take, hna, Nat.add_sub_cancel_left]
                rw [List.append_assoc, List.drop_append_of_le_length (by rw [htl, hna]; omega), hz, ← List.append_assoc]
                exact List.take_left) hmsz (by simp only [List.length_map, List.length_append, hlen]) (by show n + ys.length ≤ m.cap; omega) hob.cm (hmbx.trans hbx) hsz
          exact this
        · rw [hcap']
          exact .own (m := { m with n := n + ys.length, ver := ob.ver + 1 }) hself (hmbx.trans hbx) (by show 0 + (n + ys.length) ≤ n + ys.length; omega) (by simp) (.inl (by show m.o * i.size = (0 + m.o) * m.sz; rw [Nat.zero_add, hmsz]))
      · refine anew (A := some ⟨m.b, m.o * i.size, none⟩) (cap := cap) hse (by omega) hfl0 (fun w' hw => ?_)
        exact run_firstCells_some w' i.size n ⟨m.b, m.o * i.size, none⟩ n cap _ (by rw [List.length_take, List.length_drop, Array.length_toList]; omega) (fun j u hj => by
          rw [List.getElem?_take] at hj
          split at hj
          · rw [List.getElem?_drop, Array.getElem?_toList] at hj
            rw [add_none, (hc0.eq (by rw [hw])).cell]
            exact hj
          · cases hj)

/-- An append to the begin of a row of the call's own that surely has room. -/
theorem l_appendR {st : ASt} (hH : Holds w X μ st.H) (hσ : RelS w X μ a st.σ) {c : Call} (ho : o.op = .call c) (hc : c.callee = .builtin .append) {s x : Operand} {t u e : TypeId} (ha : c.args.toList = [s, x]) (hat : c.argTypes.toList = [t, u]) (ht : P.underlying t = some (.slice e))
    {du : TypeDesc} (hu : P.underlying u = some du) (hdu : (∃ q, du = .slice q) ∨ du = .string) {i : TypeInfo} (hi : P.info? e = some i) {s1 : SOpd} (hs1 : copd s = some s1)
    {id : Nat} (he : ev st.σ s1 = .rl id 0) {ob : AObj} (hl : lk st.H id = some ob) (h1 : ob.sz = i.size) (h2 : ob.t = e)
    {ys : List (List AV)} {vs : List Value} (hlx : ∀ w', (Builtin.lenOf (a.eval x)).run P w' = .ok ys.length w')
    (hfx : ∀ w', w'.heap = w.heap → (Builtin.firstCells i.size ys.length (a.eval x)).run P w' = .ok vs.toArray w') (hfl : FlatL w X μ i.size ys vs) (hle : ys.length ≤ ob.elems.length) {r : AV × ASt}
    (hr : r = if ys = [] then (.rl id 0, st) else (.own id 0 ys.length, { st with H := hput st.H id { ob with elems := ys ++ ob.elems.drop ys.length } })) : Turns P o a w X μ st.H base r.1 r.2 := by
  intro K Q hk
  have hrs := hσ.ev hs1
  rw [he] at hrs
  generalize hse : a.eval s = sv at hrs
  cases hrs with
  | @rl _ _ _ off cap m hm hb hn hcap hoff =>
    obtain ⟨ob0, hl0, hob⟩ := hH.h id m hm
    rw [hl] at hl0; cases hl0
    have hmsz : m.sz = i.size := by rw [← hob.sz, h1]
    have hmt : m.t = e := by rw [← hob.t, h2]
    have helen := hob.n
    have hnc := hob.nc
    have hoff0 : off = m.o * i.size := by rw [hoff, Nat.zero_add, hmsz]
    subst hoff0
    by_cases hy : ys = []
    · rw [if_pos hy] at hr
      subst hr
      have hvs : vs = [] := List.eq_nil_of_length_eq_zero (by rw [hfl.len, hy]; simp)
      have hlx0 : ∀ w', (Builtin.lenOf (a.eval x)).run P w' = .ok 0 w' := by intro w'; rw [hlx w', hy]; rfl
      have hfx0 : (Builtin.firstCells i.size 0 (a.eval x)).run P w = .ok #[] w := by have := hfx w rfl; rw [hy, hvs] at this; exact this
      have hrun := run_append_op (P := P) (w := w) ho hc ha hat (by rw [hse]; exact run_append_none ht hu hdu hi hlx0 hfx0 (by omega))
      exact wp_value hrun (hk _ w X μ .refl hσ hH (.rl hm hb hn hcap hoff) (fun id h => .inl h))
    · rw [if_neg hy] at hr
      subst hr
      obtain ⟨c0, hc0, hfit, hnew⟩ := write_obj hob (hH.x id m hm) (n := 0) (by rw [hmsz]; exact hfl) (by omega)
      rw [hmsz] at hfit hnew
      simp only [Nat.zero_mul, Nat.zero_add, List.take_zero, List.nil_append] at hfit hnew
      have hrun := run_append_op (P := P) (w := w) ho hc ha hat (by rw [hse]; exact run_append_fits (off := m.o * i.size) (sLen := 0) ht hu hdu hi (by rw [← hmt]; exact hc0) hlx (hfx w rfl) hfl.one (by omega) (by omega))
      simp only [Nat.zero_mul, Nat.zero_add, Nat.add_zero] at hrun
      obtain ⟨f1, f2, f3⟩ := write_holds (a := a) (cs := (c0.toList.take (m.o * i.size) ++ vs ++ c0.toList.drop (m.o * i.size + vs.length)).toArray) hH hσ hm hl hnew
      have hpos : 0 < ys.length := List.length_pos_iff.2 hy
      exact wp_value hrun (hk _ _ X μ f1.toK f2 f3 (.own hm hb (by omega) (by omega) (.inl (by rw [Nat.zero_add, hmsz]))) (fun id h => .inl h))

end Go.Proofs.Ytjpccbjgmogclaa.Lift
