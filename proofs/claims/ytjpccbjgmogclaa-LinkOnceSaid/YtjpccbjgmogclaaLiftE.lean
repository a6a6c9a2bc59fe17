/- A reading of the program's code by values alone: each operation that turns nothing does what the reading says, one by one. -/
import Derived.Test.YtjpccbjgmogclaaLiftD
set_option linter.all false
set_option linter.unusedSimpArgs false
namespace Go.Proofs.Ytjpccbjgmogclaa.Lift
open Go Go.RowKit

variable {P : Program} {w : World} {X : Nat → Prop} {μ : Mu} {o : Oper} {a : Act} {σ : List AV} {H : Heap} {base : Nat} {v : AV} {adds : List AObj}

/-- An operation does what is read of it. -/
def Does (P : Program) (o : Oper) (a : Act) (w : World) (X : Nat → Prop) (μ : Mu) (base : Nat) (v : AV) (adds : List AObj) : Prop :=
  ∀ (K : Act → World → Prop) (Q : Exit → Act → World → Prop), (∀ v' w' X' μ', Ext w X μ w' X' μ' → Rep w' X' μ' v v' → New w X μ w' X' μ' base adds → K (a.put o.dst v') w') → o.wp P a w K Q

theorem does_value {v' : Value} (h : (execOp a.eval o).run P w = .ok (.value v') w) (hr : Rep w X μ v v') : Does P o a w X μ base v adds :=
  fun K Q hk => wp_value h (hk v' w X μ .refl hr .same)

/-- What the objects in sight hold. -/
def Objs (w : World) (X : Nat → Prop) (μ : Mu) (H : Heap) : Prop := ∀ id ob m, lk H id = some ob → μ id = some m → HObj w X μ ob m

theorem Holds.nc (h : Holds w X μ H) : ∀ id m, μ id = some m → m.n ≤ m.cap := fun id m hm => by
  obtain ⟨o, _, ho⟩ := h.h id m hm
  exact ho.nc

theorem Rep.of0 {a : AV} {v : Value} (h : Rep w X mu0 a v) : Rep w X μ a v :=
  h.move (Nat.le_refl _) (fun _ _ _ => rfl) (fun _ _ h => h) (fun _ _ e => by cases e)

/-- What an address leads to. -/
theorem at_rep (hO : Objs w X μ H) {x : AV} {u : Value} (hx : Rep w X μ x u) {cs : List AV} (h : at_ H x = some cs) :
    ∃ (ad : Addr) (vs : Nat → Value), u = .pointer (some ad) ∧ ∀ (j : Nat) (c : AV), cs[j]? = some c → w.cell? (ad.add j) = some (vs j) ∧ (vs j).oneCell' = true ∧ Rep w X μ c (vs j) := by
  unfold at_ at h
  split at h
  · cases h
    cases hx with
    | rref vs hX hlt hv ho hr => exact ⟨_, vs, rfl, fun j c hc => ⟨hv j c hc, ho j c hc, (hr j c hc).of0⟩⟩
  · rename_i id i off
    cases hx with
    | @ref _ _ m hm _ _ =>
      cases hl : lk H id with
      | none => simp [hl] at h
      | some ob =>
        simp only [hl] at h
        split at h
        · rename_i hi
          split at h
          · rename_i hoff
            cases h
            obtain ⟨c0, hc0, hs, hcells⟩ := (hO id ob m hl hm).c
            obtain ⟨hlen, hat⟩ := hcells i ob.elems[i] (List.getElem?_eq_getElem hi)
            refine ⟨_, fun j => c0.getD ((i + m.o) * m.sz + off + j) undef, rfl, fun j c hc => ?_⟩
            rw [List.getElem?_drop] at hc
            obtain ⟨u, hu, h1, h2⟩ := hat (off + j) c hc
            have hu' : c0[(i + m.o) * m.sz + off + j]? = some u := by rw [Nat.add_assoc]; exact hu
            have hg : c0.getD ((i + m.o) * m.sz + off + j) undef = u := by simp [hu']
            simp only [hg]
            rw [add_none, hc0.cell]
            exact ⟨hu', h1, h2⟩
          · cases h
        · cases h
  · cases h

theorem run_tsz {t : TypeId} {n : Nat} (h : tsz P t = some n) (w : World) : (sizeOf t).run P w = .ok n w := by
  unfold tsz at h
  obtain ⟨i, hi, rfl⟩ := Option.map_eq_some_iff.1 h
  simp [sizeOf, typeInfo, hi]

theorem run_tagg {t : TypeId} {b : Bool} (h : tagg P t = some b) (w : World) : (isAgg t).run P w = .ok b w := by
  unfold tagg at h
  cases hu : P.underlying t with
  | none => simp [hu] at h
  | some d =>
    simp only [hu] at h
    unfold isAgg
    rw [Sem.run_bind, run_underlying hu w]
    cases d <;> simp_all

theorem run_loadVar {t : TypeId} {agg : Bool} {n : Nat} (ht : tagg P t = some agg) (hn : tsz P t = some n) {ad : Addr} {vs : Nat → Value} (hv : ∀ j, j < n → w.cell? (ad.add j) = some (vs j)) (h1 : agg = true ∨ n = 1) :
    (loadVar t ad).run P w = .ok (if agg then .agg ((List.range n).map vs).toArray else vs 0) w := by
  unfold loadVar
  rw [Sem.run_bind, run_tagg ht]
  cases agg with
  | true => simp [run_tsz hn, run_loadCells w ad n vs hv]
  | false =>
    obtain rfl : n = 1 := by simpa using h1
    have h0 := hv 0 (by omega)
    have : ad.add 0 = ad := by simp [Addr.add]
    rw [this] at h0
    simp [h0]

theorem d_load (hO : Objs w X μ H) (hσ : RelS w X μ a σ) {t : TypeId} {x : Operand} (ho : o.op = .load t x) {agg : Bool} {n : Nat} {s : SOpd} (ht : tagg P t = some agg) (hn : tsz P t = some n) (hx : copd x = some s) (h1 : agg = true ∨ n = 1)
    {cs : List AV} (hat : at_ H (ev σ s) = some cs) (hl : n ≤ cs.length) (hv : (if agg then v = .agg (cs.take n) else cs[0]? = some v)) : Does P o a w X μ base v adds := by
  obtain ⟨ad, vs, hu, hc⟩ := at_rep hO (hσ.ev hx) hat
  have hr : (execOp a.eval o).run P w = .ok (.value (if agg then .agg ((List.range n).map vs).toArray else vs 0)) w := by
    simp only [execOp, ho, hu, Instr.loadAt, Instr.sureAddr, Sem.run_bind, Sem.run_pure, Result.andThen_ok]
    rw [run_loadVar ht hn (fun j hj => (hc j _ (List.getElem?_eq_getElem (by omega))).1) h1]
    rfl
  refine does_value hr ?_
  cases agg with
  | true =>
    simp only [if_true] at hv ⊢
    subst hv
    refine .agg (by simp; omega) fun j c u hj hu' => ?_
    rw [List.getElem?_take] at hj
    split at hj
    · rename_i hjn
      simp [List.getElem?_range hjn] at hu'
      subst hu'
      exact (hc j c hj).2.2
    · cases hj
  | false =>
    simp only [Bool.false_eq_true, if_false] at hv ⊢
    exact (hc 0 v hv).2.2

theorem d_move (hσ : RelS w X μ a σ) {x : Operand} (ho : o.op = .move x ∨ o.op = .assign x) {s : SOpd} (hx : copd x = some s) : Does P o a w X μ base (ev σ s) adds := by
  refine does_value (v' := a.eval x) ?_ (hσ.ev hx)
  rcases ho with ho | ho <;> simp [execOp, ho]

theorem d_moveS (hσ : RelS w X μ a σ) {x : Operand} (ho : o.op = .move x ∨ o.op = .assign x) {s : SOpd} (hx : copd x = some s) {t sz : Nat} (hv : (∃ k, ev σ s = .ro k [] true ∧ v = .own base 0 0 ∧ adds = [⟨t, sz, false, [], 0⟩]) ∨ v = ev σ s) : Does P o a w X μ base v adds := by
  have hr := hσ.ev hx
  refine does_value (v' := a.eval x) (by rcases ho with ho | ho <;> simp [execOp, ho]) ?_
  rcases hv with ⟨k, h1, rfl, _⟩ | rfl
  · rw [h1] at hr
    generalize a.eval x = y at hr
    cases hr with
    | roE h => rw [h rfl]; exact .own0
    | ro vs hn hX hlt hc hf => subst hn; rw [hf rfl]; exact .own0
  · exact hr

theorem d_pick (hσ : RelS w X μ a σ) {x y z : Operand} (ho : o.op = .pick x y z) {s1 s2 s3 : SOpd} (hx : copd x = some s1) (hy : copd y = some s2) (hz : copd z = some s3) {b : Bool} (hb : ev σ s1 = .bool b) :
    Does P o a w X μ base (if b then ev σ s2 else ev σ s3) adds := by
  have h1 := hσ.ev hx
  rw [hb] at h1
  have h2 : a.eval x = .bool b := by cases hq : a.eval x <;> rw [hq] at h1 <;> cases h1; rfl
  refine does_value (v' := if b then a.eval y else a.eval z) ?_ ?_
  · cases b <;> simp [execOp, ho, h2, asBool]
  · cases b
    · exact hσ.ev hz
    · exact hσ.ev hy

theorem elem_info {t : TypeId} {n : Nat} (h : tsz P t = some n) : ∃ i, P.info? t = some i ∧ i.size = n := by
  unfold tsz at h
  exact Option.map_eq_some_iff.1 h

theorem tzero_spec {t : TypeId} {zs : List AV} (h : tzero P t = some zs) : ∃ i z, P.info? t = some i ∧ i.zero = some z ∧ z.cells.size = i.size ∧ RepC w X μ zs z.cells := by
  unfold tzero at h
  split at h
  · rename_i i hi
    split at h
    · rename_i z hz
      split at h
      · rename_i hs
        obtain ⟨cs, hcs, rfl⟩ := Option.map_eq_some_iff.1 h
        exact ⟨i, z, hi, hz, hs, nz_rep (cvals_rep hcs)⟩
      · cases h
    · cases h
  · cases h

theorem maxLen_one : 1 ≤ maxLen := by simp [maxLen]

/-- A new variable. -/
theorem new_var {t : TypeId} {cs : List AV} {vs : Array Value} (hr : RepC w X μ cs vs) (hf : μ base = none) (K : Value → World → Prop)
    (hk : ∀ X' μ', Ext w X μ (w.alloc (.cells vs t)) X' μ' → Rep (w.alloc (.cells vs t)) X' μ' (.ref base 0 0) (.pointer (some ⟨w.heap.size, 0, none⟩)) → New w X μ (w.alloc (.cells vs t)) X' μ' base [⟨t, cs.length, true, [cs], 0⟩] → K (.pointer (some ⟨w.heap.size, 0, none⟩)) (w.alloc (.cells vs t))) :
    K (.pointer (some ⟨w.heap.size, 0, none⟩)) (w.alloc (.cells vs t)) := by
  have hext : Ext w X μ (w.alloc (.cells vs t)) (addX X w.heap.size) (addM μ base ⟨w.heap.size, cs.length, 1, 1, t, true, 0, 0⟩) :=
    ext1 rfl rfl rfl (by simp) (fun b hb => heap_alloc_old w _ b hb) rfl hf
  refine hk _ _ hext ?_ (new1 rfl hf ?_)
  · have := Rep.ref (w := w.alloc (.cells vs t)) (X := addX X w.heap.size) (addM_self μ base ⟨w.heap.size, cs.length, 1, 1, t, true, 0, 0⟩) 0 0
    simpa using this
  · refine ⟨rfl, rfl, rfl, rfl, rfl, Nat.le_refl _, maxLen_one, by simp, vs, .of (heap_alloc_new w _), by simpa using hr.1.symm, fun i x hi => ?_⟩
    cases i with
    | zero =>
      obtain rfl : cs = x := by simpa using hi
      refine ⟨rfl, fun j y hy => ?_⟩
      obtain ⟨u, hu, h1, h2⟩ := hr.2 j y hy
      exact ⟨u, by simpa using hu, h1, hext.rep h2⟩
    | succ i => simp at hi

theorem d_alloc {t : TypeId} (ho : o.op = .alloc t) {zs : List AV} (hz : tzero P t = some zs) (hf : μ base = none) : Does P o a w X μ base (.ref base 0 0) [⟨t, zs.length, true, [zs], 0⟩] := by
  intro K Q hk
  obtain ⟨i, z, hi, hz', hs, hr⟩ := tzero_spec (w := w) (X := X) (μ := μ) hz
  have h : (execOp a.eval o).run P w = .ok (.value (.pointer (some ⟨w.heap.size, 0, none⟩))) (w.alloc (.cells z.cells t)) := by
    simp [execOp, ho, Instr.alloc, zeroValue, typeInfo, hi, hz', newVar, newRow]
  exact wp_value h (new_var (K := fun v' w' => K (a.put o.dst v') w') hr hf fun X' μ' h1 h2 h3 => hk _ _ _ _ h1 h2 h3)

theorem d_box (hσ : RelS w X μ a σ) {t : TypeId} {x : Operand} (ho : o.op = .box t x) {s : SOpd} (hx : copd x = some s) (h1 : (cells (ev σ s)).all one = true) (hf : μ base = none) :
    Does P o a w X μ base (.ref base 0 0) [⟨t, (cells (ev σ s)).length, true, [cells (ev σ s)], 0⟩] := by
  intro K Q hk
  have hr := cells_rep (hσ.ev hx) h1
  have h : (execOp a.eval o).run P w = .ok (.value (.pointer (some ⟨w.heap.size, 0, none⟩))) (w.alloc (.cells (a.eval x).cells t)) := by
    simp [execOp, ho, Instr.box, newVar, newRow]
  exact wp_value h (new_var (K := fun v' w' => K (a.put o.dst v') w') hr hf fun X' μ' h1 h2 h3 => hk _ _ _ _ h1 h2 h3)

theorem parts_rep (hσ : RelS w X μ a σ) {parts : Array (Nat × Operand)} {ps : List (Nat × SOpd)} (h : (parts.toList.mapM fun p => do some (p.1, (← copd p.2))) = some ps) :
    (ps.map fun p => (p.1, ev σ p.2)).length = (parts.map fun (i, x) => (i, a.eval x)).toList.length ∧
    ∀ (j : Nat) (p : Nat × AV), (ps.map fun p => (p.1, ev σ p.2))[j]? = some p → ∃ q : Nat × Value, (parts.map fun (i, x) => (i, a.eval x)).toList[j]? = some q ∧ q.1 = p.1 ∧ Rep w X μ p.2 q.2 := by
  obtain ⟨h1, h2⟩ := mapM_at h
  refine ⟨by simpa using h1.symm, fun j p hp => ?_⟩
  rw [List.getElem?_map] at hp
  obtain ⟨s, hs, rfl⟩ := Option.map_eq_some_iff.1 hp
  obtain ⟨x, hx, hf⟩ := h2 j s hs
  simp only [Option.bind_eq_bind, Option.bind_eq_some_iff, Option.some.injEq] at hf
  obtain ⟨s', hs', rfl⟩ := hf
  exact ⟨(x.1, a.eval x.2), by simp at hx ⊢; simp only [hx]; exact ⟨x.1, x.2, rfl, rfl, rfl⟩, rfl, hσ.ev hs'⟩

theorem partsT_rep (hσ : RelS w X μ a σ) {ft : Nat → TypeId} {parts : Array (Nat × Operand)} {ps : List (Nat × SOpd)} (h : (parts.toList.mapM fun p => do some (p.1, (← copdT P (ft p.1) p.2))) = some ps) :
    (ps.map fun p => (p.1, ev σ p.2)).length = (parts.map fun (i, x) => (i, a.eval x)).toList.length ∧
    ∀ (j : Nat) (p : Nat × AV), (ps.map fun p => (p.1, ev σ p.2))[j]? = some p → ∃ q : Nat × Value, (parts.map fun (i, x) => (i, a.eval x)).toList[j]? = some q ∧ q.1 = p.1 ∧ Rep w X μ p.2 q.2 := by
  obtain ⟨h1, h2⟩ := mapM_at h
  refine ⟨by simpa using h1.symm, fun j p hp => ?_⟩
  rw [List.getElem?_map] at hp
  obtain ⟨s, hs, rfl⟩ := Option.map_eq_some_iff.1 hp
  obtain ⟨x, hx, hf⟩ := h2 j s hs
  simp only [Option.bind_eq_bind, Option.bind_eq_some_iff, Option.some.injEq] at hf
  obtain ⟨s', hs', rfl⟩ := hf
  exact ⟨(x.1, a.eval x.2), by simp at hx ⊢; simp only [hx]; exact ⟨x.1, x.2, rfl, rfl, rfl⟩, rfl, hσ.evT hs'⟩

theorem d_build_st (hσ : RelS w X μ a σ) {t : TypeId} {parts : Array (Nat × Operand)} (ho : o.op = .build t parts) {zs : List AV} (hz : tzero P t = some zs) {fs : Array Field} (hu : P.underlying t = some (.struct fs))
    {places : List (Nat × Nat)} (hp : (fs.toList.mapM fun f => (P.info? f.type).map fun i => (f.offset, i.size)) = some places) {ft : Nat → TypeId} {ps : List (Nat × SOpd)} (hps : (parts.toList.mapM fun p => do some (p.1, (← copdT P (ft p.1) p.2))) = some ps)
    {cs : List AV} (hc : fill (fun i => places[i]?) zs (ps.map fun p => (p.1, ev σ p.2)) = some cs) : Does P o a w X μ base (.agg cs) adds := by
  obtain ⟨i, z, hi, hz', hs, hr⟩ := tzero_spec (w := w) (X := X) (μ := μ) hz
  obtain ⟨hl, hq⟩ := partsT_rep hσ hps
  obtain ⟨vs, hv, hrv⟩ := fill_rep (g := fun i => places.toArray[i]?) (fun i p h => by simpa using h) hr hl hq hc
  refine does_value (v' := .agg vs) ?_ (.agg hrv.1 fun j c u hj hu => ?_)
  · have hb := run_build (P := P) w t (parts.map fun (i, x) => (i, a.eval x)) vs (by
      unfold Program.built
      simp only [hi, hu, hz', hp]
      exact hv)
    simp only [execOp, ho, Sem.run_bind, hb, Result.andThen_ok, Sem.run_pure]
  · obtain ⟨u', hu', _, h3⟩ := hrv.2 j c hj
    rw [hu'] at hu; cases hu; exact h3

theorem d_build_arr (hσ : RelS w X μ a σ) {t : TypeId} {parts : Array (Nat × Operand)} (ho : o.op = .build t parts) {zs : List AV} (hz : tzero P t = some zs) {len : Nat} {e : TypeId} (hu : P.underlying t = some (.array len e))
    {n : Nat} (hn : tsz P e = some n) {ps : List (Nat × SOpd)} (hps : (parts.toList.mapM fun p => do some (p.1, (← copd p.2))) = some ps)
    {cs : List AV} (hc : fill (fun i => ((List.range len).map fun i => (i * n, n))[i]?) zs (ps.map fun p => (p.1, ev σ p.2)) = some cs) : Does P o a w X μ base (.agg cs) adds := by
  obtain ⟨i, z, hi, hz', hs, hr⟩ := tzero_spec (w := w) (X := X) (μ := μ) hz
  obtain ⟨ie, hie, rfl⟩ := elem_info hn
  obtain ⟨hl, hq⟩ := parts_rep hσ hps
  obtain ⟨vs, hv, hrv⟩ := fill_rep (g := fun i => some (i * ie.size, ie.size)) (fun i p h => by
    rw [List.getElem?_map] at h
    obtain ⟨k, hk, rfl⟩ := Option.map_eq_some_iff.1 h
    have := List.getElem?_eq_some_iff.1 hk
    obtain ⟨h1, h2⟩ := this
    simp at h2
    subst h2
    rfl) hr hl hq hc
  refine does_value (v' := .agg vs) ?_ (.agg hrv.1 fun j c u hj hu => ?_)
  · have hb := run_build (P := P) w t (parts.map fun (i, x) => (i, a.eval x)) vs (by
      unfold Program.built
      simp only [hi, hu, hz', hie]
      exact hv)
    simp only [execOp, ho, Sem.run_bind, hb, Result.andThen_ok, Sem.run_pure]
  · obtain ⟨u', hu', _, h3⟩ := hrv.2 j c hj
    rw [hu'] at hu; cases hu; exact h3

theorem d_nilCheck (hσ : RelS w X μ a σ) {x : Operand} (ho : o.op = .nilCheck x) {s : SOpd} (hx : copd x = some s) (h : (∃ i j k, ev σ s = .ref i j k) ∨ ∃ cs, ev σ s = .rref cs) : Does P o a w X μ base (ev σ s) adds := by
  have h1 := hσ.ev hx
  refine does_value (v' := a.eval x) ?_ h1
  have : ∃ ad, a.eval x = .pointer (some ad) := by
    rcases h with ⟨i, j, k, e⟩ | ⟨cs, e⟩ <;> rw [e] at h1 <;> (generalize a.eval x = y at h1; cases h1; exact ⟨_, rfl⟩)
  obtain ⟨ad, e⟩ := this
  simp [execOp, ho, e]

theorem d_fieldAddr (hσ : RelS w X μ a σ) {t : TypeId} {x : Operand} {f : Nat} (ho : o.op = .fieldAddr t x f) {s : SOpd} (hx : copd x = some s) {fs : Array Field} (hu : P.underlying t = some (.struct fs)) {fl : Field} (hf : fs[f]? = some fl)
    {n : Nat} (hn : tsz P fl.type = some n) (h0 : n ≠ 0) (hv : (∃ i j k, ev σ s = .ref i j k ∧ v = .ref i j (k + fl.offset)) ∨ ∃ cs, ev σ s = .rref cs ∧ fl.offset ≤ cs.length ∧ v = .rref (cs.drop fl.offset)) : Does P o a w X μ base v adds := by
  have h1 := hσ.ev hx
  have hrun : ∀ ad : Addr, a.eval x = .pointer (some ad) → (execOp a.eval o).run P w = .ok (.value (.pointer (some (ad.add fl.offset)))) w := by
    intro ad e
    simp [execOp, ho, e, Instr.fieldAt, run_underlying hu, hf, Instr.sureAddr, fieldPlace, run_tsz hn, h0]
  rcases hv with ⟨i, j, k, e, rfl⟩ | ⟨cs, e, hle, rfl⟩
  · rw [e] at h1
    generalize hy : a.eval x = y at h1
    cases h1 with
    | @ref _ _ m hm _ _ =>
      refine does_value (hrun _ hy) ?_
      rw [add_none, Nat.add_assoc]
      exact .ref hm j (k + fl.offset)
  · rw [e] at h1
    generalize hy : a.eval x = y at h1
    cases h1 with
    | rref vs hX hlt hv ho hr =>
      refine does_value (hrun _ hy) (.rref (fun j => vs (fl.offset + j)) (by rw [add_block]; exact hX) (by rw [add_block]; exact hlt) (fun j c hc => ?_) (fun j c hc => ?_) (fun j c hc => ?_))
      · rw [List.getElem?_drop] at hc; rw [add_add]; exact hv _ c hc
      · rw [List.getElem?_drop] at hc; exact ho _ c hc
      · rw [List.getElem?_drop] at hc; exact hr _ c hc

theorem run_part {t : TypeId} {agg : Bool} {n : Nat} (ht : tagg P t = some agg) (hn : tsz P t = some n) {cs : List AV} {vs : Array Value} (hl : cs.length = vs.size) (hr : ∀ (j : Nat) (c : AV) (v : Value), cs[j]? = some c → vs[j]? = some v → Rep w X μ c v)
    (off : Nat) (hle : off + n ≤ cs.length) (h1 : agg = true ∨ n = 1) (hv : if agg then v = .agg ((cs.drop off).take n) else (cs.drop off)[0]? = some v) : ∃ v', (part t vs off).run P w = .ok v' w ∧ Rep w X μ v v' := by
  unfold part
  rw [Sem.run_bind, run_tagg ht]
  cases agg with
  | true =>
    simp only [if_true] at hv
    subst hv
    refine ⟨.agg (vs.extract off (off + n)), by simp [run_tsz hn], .agg (by simp; omega) fun j c u hj hu => ?_⟩
    rw [List.getElem?_take] at hj
    split at hj
    · rename_i hjn
      rw [List.getElem?_drop] at hj
      rw [Array.getElem?_extract] at hu
      split at hu
      · exact hr _ c u hj hu
      · cases hu
    · cases hj
  | false =>
    obtain rfl : n = 1 := by simpa using h1
    simp only [Bool.false_eq_true, if_false, List.getElem?_drop, Nat.add_zero] at hv
    have hlt : off < vs.size := by omega
    exact ⟨vs[off], by simp [hlt], hr _ v _ hv (Array.getElem?_eq_getElem hlt)⟩

theorem d_field (hσ : RelS w X μ a σ) {t : TypeId} {x : Operand} {f : Nat} (ho : o.op = .field t x f) {s : SOpd} (hx : copd x = some s) {fs : Array Field} (hu : P.underlying t = some (.struct fs)) {fl : Field} (hf : fs[f]? = some fl)
    {n : Nat} {agg : Bool} (hn : tsz P fl.type = some n) (ht : tagg P fl.type = some agg) (h1 : agg = true ∨ n = 1) {cs : List AV} (he : ev σ s = .agg cs) (hle : fl.offset + n ≤ cs.length)
    (hv : if agg then v = .agg ((cs.drop fl.offset).take n) else (cs.drop fl.offset)[0]? = some v) : Does P o a w X μ base v adds := by
  have hr := hσ.ev hx
  rw [he] at hr
  generalize hy : a.eval x = y at hr
  cases hr with
  | agg hl h =>
    obtain ⟨v', hrun, hrep⟩ := run_part (w := w) ht hn hl h fl.offset hle h1 hv
    exact does_value (v' := v') (by simp [execOp, ho, hy, Instr.field, run_underlying hu, hf, asAgg, hrun]) hrep

theorem rep_int {x : AV} {u : Value} {k : IntKind} {n : Int} (h : Rep w X μ x u) (e : x = .int k n) : u = .int k n := by subst e; cases h; rfl
theorem rep_str {x : AV} {u : Value} {s : ByteArray} (h : Rep w X μ x u) (e : x = .str s) : u = .string s := by subst e; cases h; rfl
theorem rep_bool {x : AV} {u : Value} {b : Bool} (h : Rep w X μ x u) (e : x = .bool b) : u = .bool b := by subst e; cases h; rfl

theorem d_indexAddr (hO : Objs w X μ H) (hσ : RelS w X μ a σ) {t : TypeId} {x i : Operand} (ho : o.op = .indexAddr t x i) {sx si : SOpd} (hx : copd x = some sx) (hi : copd i = some si) {e : TypeId} (hu : P.underlying t = some (.slice e)) {sz : Nat} (hn : tsz P e = some sz)
    {k : IntKind} {j : Int} (hj : ev σ si = .int k j)
    (hv : (∃ s xs full, ev σ sx = .ro s xs full ∧ s = sz ∧ 0 ≤ j ∧ ∃ h : j.toNat < xs.length, v = .rref xs[j.toNat]) ∨
      ∃ id lo len ob, ev σ sx = .own id lo len ∧ lk H id = some ob ∧ ob.sz = sz ∧ 0 ≤ j ∧ j < len ∧ v = .ref id (lo + j.toNat) 0) : Does P o a w X μ base v adds := by
  have hi' := rep_int (hσ.ev hi) hj
  have hr := hσ.ev hx
  have hrun : ∀ (ad : Addr) (len cap : Nat), a.eval x = .slice (some ad) len cap → 0 ≤ j → j < len → (execOp a.eval o).run P w = .ok (.value (.pointer (some (ad.add (j.toNat * sz))))) w := by
    intro ad len cap e h0 h1
    simp [execOp, ho, e, hi', Instr.indexAt, run_underlying hu, asIntOf, h0, h1, run_tsz hn]
  rcases hv with ⟨s, xs, full, e1, rfl, h0, hlt, rfl⟩ | ⟨id, lo, len, ob, e1, hl, hsz, h0, h1, rfl⟩
  · rw [e1] at hr
    generalize hy : a.eval x = y at hr
    cases hr with
    | roE h => exact absurd hlt (by simp)
    | ro vs hn' hX hlt' hc hf hz hv ho' hr' =>
      refine does_value (hrun _ _ _ hy h0 (by omega)) ?_
      have hx' := List.getElem?_eq_getElem hlt
      exact .rref (fun q => vs j.toNat q) (by rw [add_block]; exact hX) (by rw [add_block]; exact hlt') (fun q c hc => by rw [add_add]; exact hv _ _ q c hx' hc) (fun q c hc => ho' _ _ q c hx' hc) (fun q c hc => hr' _ _ q c hx' hc)
  · rw [e1] at hr
    generalize hy : a.eval x = y at hr
    cases hr with
    | @own _ _ m _ _ off cap hm hb hn' hc ho' =>
      have hcap : cap ≠ 0 := by
        have h2 := (hO id ob m hl hm).nc
        omega
      obtain rfl : off = (lo + m.o) * m.sz := ho'.resolve_right hcap
      refine does_value (hrun _ _ _ hy h0 h1) ?_
      have hs : m.sz = sz := by rw [← (hO id ob m hl hm).sz, hsz]
      rw [add_none, ← hs, ← Nat.add_mul, Nat.add_right_comm lo m.o]
      exact Rep.ref hm (lo + j.toNat) 0
    | own0 => omega

theorem d_indexAddrA (hσ : RelS w X μ a σ) {t : TypeId} {x i : Operand} (ho : o.op = .indexAddr t x i) {sx si : SOpd} (hx : copd x = some sx) (hi : copd i = some si) {len : Nat} {e : TypeId} (hu : P.underlying t = some (.array len e)) {sz : Nat} (hn : tsz P e = some sz)
    {k : IntKind} {j : Int} (hj : ev σ si = .int k j) (h0 : 0 ≤ j) (h1 : j < len)
    (hv : (∃ id r q, ev σ sx = .ref id r q ∧ v = .ref id r (q + j.toNat * sz)) ∨ ∃ cs, ev σ sx = .rref cs ∧ v = .rref (cs.drop (j.toNat * sz))) : Does P o a w X μ base v adds := by
  have hi' := rep_int (hσ.ev hi) hj
  have hr := hσ.ev hx
  have hrun : ∀ (ad : Addr), a.eval x = .pointer (some ad) → (execOp a.eval o).run P w = .ok (.value (.pointer (some (ad.add (j.toNat * sz))))) w := by
    intro ad e
    simp [execOp, ho, e, hi', Instr.indexAt, run_underlying hu, asIntOf, h0, h1, run_tsz hn, Instr.sureAddr]
  rcases hv with ⟨id, r, q, e1, rfl⟩ | ⟨cs, e1, rfl⟩
  · rw [e1] at hr
    generalize hy : a.eval x = y at hr
    cases hr with
    | @ref _ _ m hm _ _ =>
      refine does_value (hrun _ hy) ?_
      rw [add_none, Nat.add_assoc]
      exact .ref hm r _
  · rw [e1] at hr
    generalize hy : a.eval x = y at hr
    cases hr with
    | rref vs hX hlt hv ho' hr' =>
      refine does_value (hrun _ hy) (.rref (fun q => vs (j.toNat * sz + q)) (by rw [add_block]; exact hX) (by rw [add_block]; exact hlt) (fun q c hc => ?_) (fun q c hc => ?_) (fun q c hc => ?_))
      · rw [List.getElem?_drop] at hc; rw [add_add]; exact hv _ c hc
      · rw [List.getElem?_drop] at hc; exact ho' _ c hc
      · rw [List.getElem?_drop] at hc; exact hr' _ c hc

theorem d_indexA (hσ : RelS w X μ a σ) {t : TypeId} {x i : Operand} (ho : o.op = .index t x i) {sx si : SOpd} (hx : copd x = some sx) (hi : copd i = some si) {len : Nat} {e : TypeId} (hu : P.underlying t = some (.array len e)) {sz : Nat} {agg : Bool} (hn : tsz P e = some sz) (ht : tagg P e = some agg)
    (h1 : agg = true ∨ sz = 1) {k : IntKind} {j : Int} (hj : ev σ si = .int k j) (h0 : 0 ≤ j) (hlt : j < len) {cs : List AV} (he : ev σ sx = .agg cs) (hle : j.toNat * sz + sz ≤ cs.length)
    (hv : if agg then v = .agg ((cs.drop (j.toNat * sz)).take sz) else (cs.drop (j.toNat * sz))[0]? = some v) : Does P o a w X μ base v adds := by
  have hi' := rep_int (hσ.ev hi) hj
  have hr := hσ.ev hx
  rw [he] at hr
  generalize hy : a.eval x = y at hr
  cases hr with
  | agg hl h =>
    obtain ⟨v', hrun, hrep⟩ := run_part (w := w) ht hn hl h (j.toNat * sz) hle h1 hv
    exact does_value (v' := v') (by simp [execOp, ho, hy, hi', Instr.index, run_underlying hu, asIntOf, h0, hlt, run_tsz hn, hrun]) hrep

theorem d_indexS (hσ : RelS w X μ a σ) {t : TypeId} {x i : Operand} (ho : o.op = .index t x i) {sx si : SOpd} (hx : copd x = some sx) (hi : copd i = some si) (hu : P.underlying t = some .string)
    {k : IntKind} {j : Int} (hj : ev σ si = .int k j) (h0 : 0 ≤ j) {s : ByteArray} (he : ev σ sx = .str s) {b : UInt8} (hb : s[j.toNat]? = some b) : Does P o a w X μ base (.int .u8 b.toNat) adds := by
  have hi' := rep_int (hσ.ev hi) hj
  have hx' := rep_str (hσ.ev hx) he
  refine does_value (v' := .int .u8 b.toNat) ?_ (.int _ _)
  simp [execOp, ho, hi', hx', Instr.index, run_underlying hu, asIntOf, h0, hb]

theorem d_extract (hσ : RelS w X μ a σ) {x : Operand} {i : Nat} (ho : o.op = .extract x i) {s : SOpd} (hx : copd x = some s) {vs : List AV} (he : ev σ s = .tup vs) (hv : vs[i]? = some v) : Does P o a w X μ base v adds := by
  have hr := hσ.ev hx
  rw [he] at hr
  generalize hy : a.eval x = y at hr
  cases hr with
  | tup hl h =>
    rename_i us
    have hlt : i < us.size := by rw [← hl]; exact (List.getElem?_eq_some_iff.1 hv).1
    exact does_value (v' := us[i]) (by simp [execOp, ho, hy, Instr.extract, hlt]) (h i v _ hv (Array.getElem?_eq_getElem hlt))

theorem d_assert (hσ : RelS w X μ a σ) {x : Operand} {xt t : TypeId} (ho : o.op = .typeAssert x xt t false) {s : SOpd} (hx : copd x = some s) {d : TypeDesc} (hu : P.underlying t = some d) (hd : ∀ ms, d ≠ .interface ms) (he : ev σ s = .ifc t v) : Does P o a w X μ base v adds := by
  have hr := hσ.ev hx
  rw [he] at hr
  generalize hy : a.eval x = y at hr
  cases hr with
  | ifc h =>
    rename_i u
    refine does_value (v' := u) ?_ h
    simp only [execOp, ho, hy, Instr.typeAssert, Sem.run_bind, run_underlying hu, Result.andThen_ok]
    cases d <;> first | (exact absurd rfl (hd _)) | simp

theorem d_assertOk (hσ : RelS w X μ a σ) {x : Operand} {xt t : TypeId} (ho : o.op = .typeAssert x xt t true) {s : SOpd} (hx : copd x = some s) {d : TypeDesc} (hu : P.underlying t = some d) (hd : ∀ ms, d ≠ .interface ms) {zero : AV} (hz : tzeroV P t = some zero)
    (he : (∃ t' v', ev σ s = .ifc t' v' ∧ v = if t' = t then .tup [v', .bool true] else .tup [zero, .bool false]) ∨ (ev σ s = .nilI ∧ v = .tup [zero, .bool false])) : Does P o a w X μ base v adds := by
  have hr := hσ.ev hx
  unfold tzeroV at hz
  split at hz
  case h_2 => cases hz
  rename_i i hi
  split at hz
  case h_2 => cases hz
  rename_i z hzz
  have hzr : Rep w X μ zero z := cval'_rep hz
  have hpair : ∀ {a1 : AV} {v1 : Value} {b : Bool}, Rep w X μ a1 v1 → Rep w X μ (.tup [a1, .bool b]) (.tuple #[v1, .bool b]) := by
    intro a1 v1 b h
    refine .tup rfl fun j c u hc hu => ?_
    match j with
    | 0 => simp at hc hu; subst hc hu; exact h
    | 1 => simp at hc hu; subst hc hu; exact .bool b
    | j + 2 => simp at hc
  generalize hy : a.eval x = y at hr
  rcases he with ⟨t', v', e, rfl⟩ | ⟨e, rfl⟩
  · rw [e] at hr
    cases hr with
    | ifc h =>
      rename_i u
      by_cases ht : t' = t
      · refine does_value (v' := .tuple #[u, .bool true]) ?_ (by rw [if_pos ht]; exact hpair h)
        simp only [execOp, ho, hy, Instr.typeAssert, Sem.run_bind, run_underlying hu, Result.andThen_ok]
        cases d <;> first | (exact absurd rfl (hd _)) | simp [ht]
      · refine does_value (v' := .tuple #[z, .bool false]) ?_ (by rw [if_neg ht]; exact hpair hzr)
        simp only [execOp, ho, hy, Instr.typeAssert, Sem.run_bind, run_underlying hu, Result.andThen_ok]
        cases d <;> first | (exact absurd rfl (hd _)) | simp [ht, zeroValue, typeInfo, hi, hzz]
  · rw [e] at hr
    cases hr with
    | nilI =>
      refine does_value (v' := .tuple #[z, .bool false]) ?_ (hpair hzr)
      simp only [execOp, ho, hy, Instr.typeAssert, Sem.run_bind, run_underlying hu, Result.andThen_ok]
      cases d <;> first | (exact absurd rfl (hd _)) | simp [zeroValue, typeInfo, hi, hzz]

theorem d_mkIfc (hσ : RelS w X μ a σ) {x : Operand} {t : TypeId} (ho : o.op = .makeInterface t x) {s : SOpd} (hx : copd x = some s) {d : TypeDesc} (hu : P.underlying t = some d) (hd : ∀ ms, d ≠ .interface ms) : Does P o a w X μ base (.ifc t (ev σ s)) adds := by
  refine does_value (v' := .iface t (a.eval x)) ?_ (.ifc (hσ.ev hx))
  simp only [execOp, ho, Instr.makeInterface, Sem.run_bind, run_underlying hu, Result.andThen_ok]
  cases d <;> first | (exact absurd rfl (hd _)) | simp

theorem d_mkFn (hσ : RelS w X μ a σ) {f : Fn} {xs ys : Array Operand} (ho : o.op = .makeFunc f xs ys) {s1 s2 : List SOpd} (h1 : xs.toList.mapM copd = some s1) (h2 : ys.toList.mapM copd = some s2) : Does P o a w X μ base (.fn f (evs σ s1) (evs σ s2)) adds := by
  obtain ⟨l1, r1⟩ := hσ.evs h1
  obtain ⟨l2, r2⟩ := hσ.evs h2
  refine does_value (v' := .func f (xs.map a.eval) (ys.map a.eval)) (by simp [execOp, ho, Instr.makeFunc]) (.fn (by simpa [evs] using l1) (by simpa [evs] using l2) (fun j c u hc hu => ?_) (fun j c u hc hu => ?_))
  · obtain ⟨x, hx, hr⟩ := r1 j c hc
    rw [Array.getElem?_toList] at hx
    rw [Array.getElem?_map, hx] at hu
    cases hu; exact hr
  · obtain ⟨x, hx, hr⟩ := r2 j c hc
    rw [Array.getElem?_toList] at hx
    rw [Array.getElem?_map, hx] at hu
    cases hu; exact hr

theorem d_len (hσ : RelS w X μ a σ) {c : Call} (ho : o.op = .call c) (hc : c.callee = .builtin .len) {x : Operand} {t : TypeId} (ha : c.args.toList = [x]) (hat : c.argTypes.toList = [t]) {str : Bool} (hu : if str then P.underlying t = some .string else ∃ e, P.underlying t = some (.slice e))
    {s : SOpd} (hx : copd x = some s) {n : Nat} (hn : lenOf str (ev σ s) = some n) : Does P o a w X μ base (.int .i64 n) adds := by
  have hr := hσ.ev hx
  have ha' : c.args = #[x] := by rw [← Array.toList_inj]; exact ha
  have hat' : c.argTypes = #[t] := by rw [← Array.toList_inj]; exact hat
  refine does_value (v' := goInt n) ?_ (.int _ _)
  have hl : (Builtin.len_ #[t] o.type #[a.eval x]).run P w = .ok (goInt n) w := by
    unfold lenOf at hn
    split at hn
    · rename_i sz xs full e
      obtain ⟨el, he⟩ : ∃ e, P.underlying t = some (.slice e) := by simpa using hu
      rw [e] at hr
      cases hn
      generalize a.eval x = y at hr
      cases hr with
      | roE h => simp [Builtin.len_, run_underlying he]
      | ro vs hn' => subst hn'; simp [Builtin.len_, run_underlying he]
    · rename_i id lo len e
      obtain ⟨el, he⟩ : ∃ e, P.underlying t = some (.slice e) := by simpa using hu
      rw [e] at hr
      cases hn
      generalize a.eval x = y at hr
      cases hr with
      | own h hb hn' hc ho => simp [Builtin.len_, run_underlying he]
      | own0 => simp [Builtin.len_, run_underlying he]
    · rename_i id lo e
      obtain ⟨el, he⟩ : ∃ e, P.underlying t = some (.slice e) := by simpa using hu
      rw [e] at hr
      cases hn
      generalize a.eval x = y at hr
      cases hr with
      | rl h hb hn' hc ho => simp [Builtin.len_, run_underlying he]
    · rename_i q e
      have he : P.underlying t = some .string := by simpa using hu
      rw [rep_str hr e]
      cases hn
      simp [Builtin.len_, run_underlying he]
    · cases hn
  simp [execOp, ho, resolve, hc, ha', hat', invoke, builtin, hl]

end Go.Proofs.Ytjpccbjgmogclaa.Lift
