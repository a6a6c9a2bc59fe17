/- A reading of the program's code by values alone: operations that may come in several orders. -/
import Derived.Test.YtjpccbjgmogclaaLiftM
set_option linter.all false
set_option linter.unusedSimpArgs false
namespace Go.Proofs.Ytjpccbjgmogclaa.Lift
open Go Go.RowKit

variable {P : Program} {w : World} {X : Nat → Prop} {μ : Mu} {a : Act}

theorem ev_congr {σ σ' : List AV} {x : SOpd} (h : ∀ t ∈ otmp x, σ.getD t .top = σ'.getD t .top) : ev σ x = ev σ' x := by
  cases x with
  | tmp t => exact h t (by simp [otmp])
  | cst a => rfl

theorem evs_congr {σ σ' : List AV} {xs : List SOpd} (h : ∀ t ∈ otmps xs, σ.getD t .top = σ'.getD t .top) : evs σ xs = evs σ' xs := by
  unfold evs
  refine List.map_congr_left fun x hx => ev_congr fun t ht => h t ?_
  unfold otmps
  exact List.mem_flatMap.2 ⟨x, hx, ht⟩

theorem optI_congr {σ σ' : List AV} {x : Option SOpd} (h : ∀ t ∈ ootmp x, σ.getD t .top = σ'.getD t .top) : optI σ x = optI σ' x := by
  cases x with
  | none => rfl
  | some x => simp only [optI, ev_congr (x := x) h]

theorem parts_congr {σ σ' : List AV} {ps : List (Nat × SOpd)} (h : ∀ t ∈ otmps (ps.map (·.2)), σ.getD t .top = σ'.getD t .top) : (ps.map fun p => (p.1, ev σ p.2)) = ps.map fun p => (p.1, ev σ' p.2) := by
  refine List.map_congr_left fun p hp => ?_
  rw [ev_congr (x := p.2) fun t ht => h t ?_]
  unfold otmps
  exact List.mem_flatMap.2 ⟨p.2, List.mem_map.2 ⟨p, hp, rfl⟩, ht⟩

theorem target_congr {σ σ' : List AV} {f : SCallee} (h : ∀ t ∈ ctmp f, σ.getD t .top = σ'.getD t .top) : target σ f = target σ' f := by
  cases f with
  | val x => simp only [target, ev_congr (x := x) h]
  | inv tbl x => simp only [target, ev_congr (x := x) h]

theorem calm_congr {C : FT} {H : Heap} {base : Nat} {σ σ' : List AV} : ∀ {s : SOp}, (∀ t ∈ stmps s, σ.getD t .top = σ'.getD t .top) → calm C σ H base s = calm C σ' H base s := by
  intro s h
  cases s <;> simp only [stmps, List.mem_append] at h
  case move x => simp only [calm, ev_congr (x := x) h]
  case pick x y z => simp only [calm, ev_congr (x := x) fun t ht => h t (.inl ht), ev_congr (x := y) fun t ht => h t (.inr (.inl ht)), ev_congr (x := z) fun t ht => h t (.inr (.inr ht))]
  case alloc => rfl
  case box t x => simp only [calm, ev_congr (x := x) h]
  case build places zero ps => simp only [calm, parts_congr (ps := ps) h]
  case buildSlice t sz n zero ps => simp only [calm, parts_congr (ps := ps) h]
  case buildRO sz n zero ps => simp only [calm, parts_congr (ps := ps) h]
  case load agg n x => simp only [calm, ev_congr (x := x) h]
  case store => rfl
  case nilCheck x => simp only [calm, ev_congr (x := x) h]
  case bin op tag x y => simp only [calm, ev_congr (x := x) fun t ht => h t (.inl ht), ev_congr (x := y) fun t ht => h t (.inr ht)]
  case un op x => simp only [calm, ev_congr (x := x) h]
  case conv c x => simp only [calm, ev_congr (x := x) h]
  case mkIfc t x => simp only [calm, ev_congr (x := x) h]
  case mkFn f x y => simp only [calm, evs_congr (xs := x) fun t ht => h t (.inl ht), evs_congr (xs := y) fun t ht => h t (.inr ht)]
  case makeSlice t sz bytes zero x y => simp only [calm, ev_congr (x := x) fun t ht => h t (.inl ht), ev_congr (x := y) fun t ht => h t (.inr ht)]
  case slice sz x lo hi mx => simp only [calm, ev_congr (x := x) fun t ht => h t (.inl ht), optI_congr (x := lo) fun t ht => h t (.inr (.inl ht)), optI_congr (x := hi) fun t ht => h t (.inr (.inr (.inl ht))), optI_congr (x := mx) fun t ht => h t (.inr (.inr (.inr ht)))]
  case sliceR sz x lo hi => simp only [calm, ev_congr (x := x) fun t ht => h t (.inl ht), optI_congr (x := lo) fun t ht => h t (.inr (.inl ht)), optI_congr (x := hi) fun t ht => h t (.inr (.inr ht))]
  case clear => rfl
  case sliceS x lo hi => simp only [calm, ev_congr (x := x) fun t ht => h t (.inl ht), optI_congr (x := lo) fun t ht => h t (.inr (.inl ht)), optI_congr (x := hi) fun t ht => h t (.inr (.inr ht))]
  case fieldAddr x off => simp only [calm, ev_congr (x := x) h]
  case field x agg off n => simp only [calm, ev_congr (x := x) h]
  case indexAddr sz x y => simp only [calm, ev_congr (x := x) fun t ht => h t (.inl ht), ev_congr (x := y) fun t ht => h t (.inr ht)]
  case indexAddrA len sz x y => simp only [calm, ev_congr (x := x) fun t ht => h t (.inl ht), ev_congr (x := y) fun t ht => h t (.inr ht)]
  case indexA len sz agg x y => simp only [calm, ev_congr (x := x) fun t ht => h t (.inl ht), ev_congr (x := y) fun t ht => h t (.inr ht)]
  case indexS x y => simp only [calm, ev_congr (x := x) fun t ht => h t (.inl ht), ev_congr (x := y) fun t ht => h t (.inr ht)]
  case assert t x => simp only [calm, ev_congr (x := x) h]
  case assertOk t zero x => simp only [calm, ev_congr (x := x) h]
  case extract x i => simp only [calm, ev_congr (x := x) h]
  case call f mode as => simp only [calm, target_congr (f := f) fun t ht => h t (.inl ht), evs_congr (xs := as) fun t ht => h t (.inr ht)]
  case callF f mode as => simp only [calm, target_congr (f := f) fun t ht => h t (.inl ht), evs_congr (xs := as) fun t ht => h t (.inr ht)]
  case nilRow => rfl
  case moveS t sz x => simp only [calm, ev_congr (x := x) h]
  case len str x => simp only [calm, ev_congr (x := x) h]
  case append t sz bytes x y => simp only [calm, ev_congr (x := x) fun t ht => h t (.inl ht), ev_congr (x := y) fun t ht => h t (.inr ht)]
  case appendS t bytes x y => simp only [calm, ev_congr (x := x) fun t ht => h t (.inl ht), ev_congr (x := y) fun t ht => h t (.inr ht)]
  case eqS ne ks x y => simp only [calm, ev_congr (x := x) fun t ht => h t (.inl ht), ev_congr (x := y) fun t ht => h t (.inr ht)]
  case minmax mx xs => simp only [calm, evs_congr (xs := xs) h]

/-! #### what stands ahead of what -/

theorem fold_bits (acc : List Nat) (k : Nat) : ∀ (es : List Edge) (s : Nat), (es.foldl (fun s e => if Region.binds .any e then (s ||| 2 ^ e.on) ||| acc.getD e.on 0 else s) s).testBit k = true → s.testBit k = true ∨ ∃ e ∈ es, Region.binds .any e = true ∧ (e.on = k ∨ (acc.getD e.on 0).testBit k = true)
  | [], s, h => .inl h
  | e :: es, s, h => by
    simp only [List.foldl_cons] at h
    rcases fold_bits acc k es _ h with h1 | ⟨e', h1, h2⟩
    · split at h1
      · rename_i hb
        simp only [Nat.testBit_or, Bool.or_eq_true, Nat.testBit_two_pow, decide_eq_true_eq] at h1
        rcases h1 with (h1 | h1) | h1
        · exact .inl h1
        · exact .inr ⟨e, by simp, hb, .inl h1⟩
        · exact .inr ⟨e, by simp, hb, .inr h1⟩
      · exact .inl h1
    · exact .inr ⟨e', by simp [h1], h2⟩

def bef1 (acc : List Nat) (o : Oper) : Nat := o.after.toList.foldl (fun s e => if Region.binds .any e then (s ||| 2 ^ e.on) ||| acc.getD e.on 0 else s) 0

theorem befs_prefix : ∀ (ops : List Oper) (acc : List Nat), ∃ r, befs ops acc = acc ++ r ∧ r.length = ops.length
  | [], acc => ⟨[], by simp [befs], rfl⟩
  | o :: ops, acc => by
    obtain ⟨r, h1, h2⟩ := befs_prefix ops (acc ++ [bef1 acc o])
    exact ⟨bef1 acc o :: r, by show befs ops (acc ++ [bef1 acc o]) = _; rw [h1]; simp, by simp [h2]⟩

theorem befs_at : ∀ (ops : List Oper) (acc : List Nat) (i : Nat) (o : Oper), ops[i]? = some o → (befs ops acc).getD (acc.length + i) 0 = bef1 ((befs ops acc).take (acc.length + i)) o
  | [], acc, i, o, h => by simp at h
  | o' :: ops, acc, 0, o, h => by
    simp at h; subst h
    obtain ⟨r, h1, h2⟩ := befs_prefix ops (acc ++ [bef1 acc o'])
    have e : befs (o' :: ops) acc = acc ++ (bef1 acc o' :: r) := by
      show befs ops (acc ++ [bef1 acc o']) = _; rw [h1]; simp
    rw [e, Nat.add_zero, List.take_left, List.getD_eq_getElem?_getD, List.getElem?_append_right (Nat.le_refl _)]
    simp
  | o' :: ops, acc, i + 1, o, h => by
    have ih := befs_at ops (acc ++ [bef1 acc o']) i o (by simpa using h)
    have e : befs (o' :: ops) acc = befs ops (acc ++ [bef1 acc o']) := rfl
    rw [e]
    simp only [List.length_append, List.length_cons, List.length_nil, Nat.zero_add] at ih
    rw [show acc.length + (i + 1) = acc.length + 1 + i by omega]
    exact ih

theorem befs_bits {ops : List Oper} {i k : Nat} {o : Oper} (ho : ops[i]? = some o) (h : ((befs ops []).getD i 0).testBit k = true) :
    ∃ e ∈ o.after.toList, Region.binds .any e = true ∧ (e.on = k ∨ (e.on < i ∧ ((befs ops []).getD e.on 0).testBit k = true)) := by
  have := befs_at ops [] i o ho
  simp only [List.length_nil, Nat.zero_add] at this
  rw [this] at h
  rcases fold_bits _ k _ 0 h with h1 | ⟨e, h1, h2, h3⟩
  · simp at h1
  · refine ⟨e, h1, h2, h3.imp (fun h => h) (fun h3 => ?_)⟩
    rw [List.getD_eq_getElem?_getD, List.getElem?_take] at h3
    split at h3
    · rename_i hlt
      exact ⟨hlt, by rw [List.getD_eq_getElem?_getD]; exact h3⟩
    · simp at h3

theorem tmpsOk_spec {sos : List SOper} {b : List Nat} (h : tmpsOk sos b = true) {i j d : Nat} {o w : SOper} (hi : sos[i]? = some o) (hj : sos[j]? = some w) (hd : w.dst = some d) (hne : i ≠ j) (hl : d ∈ looks o ∨ o.dst = some d) :
    (j < i → (b.getD i 0).testBit j = true) ∧ (i < j → (b.getD j 0).testBit i = true) := by
  unfold tmpsOk at h
  rw [List.all_eq_true] at h
  have h1 := h j (List.mem_range.2 (List.getElem?_eq_some_iff.1 hj).1)
  simp only [hj, hd] at h1
  rw [List.all_eq_true] at h1
  have h2 := h1 i (List.mem_range.2 (List.getElem?_eq_some_iff.1 hi).1)
  simp only [hi] at h2
  have h3 : (i == j) = false := by simpa using hne
  have h4 : ((looks o).contains d || o.dst == some d) = true := by
    rcases hl with h | h
    · simp [h]
    · simp [h]
  rw [h3, h4] at h2
  simp only [Bool.not_true, Bool.false_or] at h2
  constructor
  · intro hlt; rw [if_pos hlt] at h2; exact h2
  · intro hlt; rw [if_neg (by omega)] at h2; exact h2

theorem isBar_spec {b : List Nat} {n i : Nat} (h : isBar b n i = true) : ∀ j, i < j → j < n → (b.getD j 0).testBit i = true := by
  unfold isBar at h
  simp only [List.all_eq_true, List.mem_range, Bool.or_eq_true, decide_eq_true_eq] at h
  exact fun j h1 h2 => (h j h2).resolve_left (by omega)

/-- What is known of an operation that may turn something. -/
def LateOk (sos : List SOper) (b : List Nat) (q : Nat) (so : SOper) : Prop :=
  (∀ j, q < j → j < sos.length → (b.getD j 0).testBit q = true) ∧
  ∀ j sj, j < q → sos[j]? = some sj → (b.getD q 0).testBit j = true ∨ ((⟨j, sj.dst, sj.op, sj.guard⟩ : SLate) ∈ so.late ∧ ∀ w sw d, j ≤ w → sos[w]? = some sw → sw.dst = some d → d ∉ looks sj ∧ (j < w → sj.dst ≠ some d))

/-! #### the text's own run -/

/-- One operation of the text's run. -/
def Step (C : FT) (nx : Nat) (so : SOper) (i : Nat) (s s' : ASt) : Prop :=
  (guardOf s.σ so.guard = some false ∧ s' = put s so.dst (.tup [])) ∨
  (guardOf s.σ so.guard = some true ∧ ∃ v adds, calm C s.σ s.H (nx + 64 * i) so.op = some (v, adds) ∧ adds.length ≤ 64 ∧ s' = put { s with H := zipFrom (nx + 64 * i) adds ++ s.H } so.dst v) ∨
  (guardOf s.σ so.guard = some true ∧ so.bar = true ∧ ∃ v s1, loud C s (nx + 64 * i) so.op = some (v, s1) ∧ s' = put s1 so.dst v ∧ so.late.all (late1 s') = true)

theorem aops_states {C : FT} {nx : Nat} : ∀ (sos : List SOper) (i : Nat) (st stE : ASt), st.nxt = nx → aops C true sos i st = some stE → ∃ S : Nat → ASt, S i = st ∧ S (i + sos.length) = stE ∧ ∀ j so, sos[j]? = some so → Step C nx so (i + j) (S (i + j)) (S (i + j + 1)) ∧ (S (i + j + 1)).nxt = nx ∧ (S (i + j + 1)).k = st.k
  | [], i, st, stE, hnx, h => by
    simp only [aops, Option.some.injEq] at h
    subst h
    exact ⟨fun _ => st, rfl, rfl, fun j so hj => by simp at hj⟩
  | so :: rest, i, st, stE, hnx, h => by
    subst hnx
    have key : ∀ st1, aops C true rest (i + 1) st1 = some stE → Step C st.nxt so i st st1 → st1.nxt = st.nxt → st1.k = st.k → ∃ S : Nat → ASt, S i = st ∧ S (i + (so :: rest).length) = stE ∧ ∀ j so', (so :: rest)[j]? = some so' → Step C st.nxt so' (i + j) (S (i + j)) (S (i + j + 1)) ∧ (S (i + j + 1)).nxt = st.nxt ∧ (S (i + j + 1)).k = st.k := by
      intro st1 h1 hs hn1 hk1
      obtain ⟨S, a1, a2, a3⟩ := aops_states rest (i + 1) st1 stE hn1 h1
      refine ⟨fun j => if j = i then st else S j, by simp, ?_, fun j so' hj => ?_⟩
      · simp only [List.length_cons]
        rw [if_neg (by omega), ← a2]; congr 1; omega
      · cases j with
        | zero =>
          simp at hj; subst hj
          simp only [Nat.add_zero, if_true]
          rw [if_neg (by omega), a1]
          exact ⟨hs, hn1, hk1⟩
        | succ j =>
          have := a3 j so' (by simpa using hj)
          simp only []
          rw [if_neg (by omega), if_neg (by omega), show i + (j + 1) = i + 1 + j by omega]
          exact ⟨this.1, this.2.1, this.2.2.trans hk1⟩
    rcases aops_cons h with ⟨hg, hr⟩ | ⟨hg, v, adds, hc, hl, hr⟩ | ⟨hg, hb, v, st', hl, hlt, hr⟩
    · exact key _ hr (.inl ⟨hg, rfl⟩) (put_nxt _ _ _).1 (put_nxt _ _ _).2
    · exact key _ hr (.inr (.inl ⟨hg, v, adds, hc, hl, rfl⟩)) (put_nxt _ _ _).1 (put_nxt _ _ _).2
    · have hd := loud_dom hl
      exact key _ hr (.inr (.inr ⟨hg, hb rfl, v, st', hl, rfl, hlt⟩)) ((put_nxt _ _ _).1.trans hd.2.1) ((put_nxt _ _ _).2.trans hd.2.2.1)

theorem put_H (s : ASt) (d : Option Nat) (v : AV) : (put s d v).H = s.H := by cases d <;> rfl
theorem put_len (s : ASt) (d : Option Nat) (v : AV) : (put s d v).σ.length = s.σ.length := by cases d <;> simp [put]
theorem put_at (s : ASt) (d : Option Nat) (v : AV) (t : Nat) (h : d ≠ some t) : (put s d v).σ.getD t .top = s.σ.getD t .top := by
  cases d with
  | none => rfl
  | some d =>
    simp only [put, List.getD_eq_getElem?_getD]
    rw [List.getElem?_set_ne (by intro e; exact h (by rw [e]))]
theorem put_self (s : ASt) (t : Nat) (v : AV) (h : t < s.σ.length) : (put s (some t) v).σ.getD t .top = v := by
  simp only [put, List.getD_eq_getElem?_getD]
  rw [List.getElem?_set_self (by exact h)]
  rfl

/-- What a place holds when some of a stretch's operations have been done. -/
def vt (S : Nat → ASt) (dst : Nat → Option Nat) (L : Nat → Bool) (t : Nat) (js : List Nat) (x : AV) : AV :=
  js.foldl (fun acc j => if L j && (dst j == some t) then (S (j + 1)).σ.getD t .top else acc) x

theorem vt_congr {S : Nat → ASt} {dst : Nat → Option Nat} {L L' : Nat → Bool} {t : Nat} : ∀ {js : List Nat} {x : AV}, (∀ j ∈ js, dst j = some t → L j = L' j) → vt S dst L t js x = vt S dst L' t js x
  | [], x, h => rfl
  | j :: js, x, h => by
    have h1 : (L j && (dst j == some t)) = (L' j && (dst j == some t)) := by
      by_cases e : dst j = some t
      · rw [h j (by simp) e]
      · have : (dst j == some t) = false := by simpa using e
        rw [this]; simp
    simp only [vt, List.foldl_cons, h1]
    exact vt_congr (js := js) fun j hj => h j (by simp [hj])

theorem vt_none {S : Nat → ASt} {dst : Nat → Option Nat} {L : Nat → Bool} {t : Nat} : ∀ {js : List Nat} {x : AV}, (∀ j ∈ js, dst j = some t → L j = false) → vt S dst L t js x = x
  | [], x, h => rfl
  | j :: js, x, h => by
    have h1 : (L j && (dst j == some t)) = false := by
      by_cases e : dst j = some t
      · rw [h j (by simp) e]; rfl
      · have : (dst j == some t) = false := by simpa using e
        rw [this]; simp
    simp only [vt, List.foldl_cons, h1, Bool.false_eq_true, if_false]
    exact vt_none (js := js) fun j hj => h j (by simp [hj])

theorem vt_append {S : Nat → ASt} {dst : Nat → Option Nat} {L : Nat → Bool} {t : Nat} {js ks : List Nat} {x : AV} : vt S dst L t (js ++ ks) x = vt S dst L t ks (vt S dst L t js x) := by
  simp [vt, List.foldl_append]

theorem vt_set {S : Nat → ASt} {dst : Nat → Option Nat} {L : Nat → Bool} {t i : Nat} {A B : List Nat} {x : AV} (hL : L i = true) (hd : dst i = some t) (hB : ∀ j ∈ B, dst j = some t → L j = false) : vt S dst L t (A ++ i :: B) x = (S (i + 1)).σ.getD t .top := by
  rw [vt_append]
  show vt S dst L t (i :: B) _ = _
  have : ∀ y, vt S dst L t (i :: B) y = vt S dst L t B ((S (i + 1)).σ.getD t .top) := by
    intro y
    simp only [vt, List.foldl_cons, hL, hd, beq_self_eq_true, Bool.and_self, if_true]
  rw [this, vt_none hB]

/-- The text's run reads as all operations up to one. -/
theorem vt_text {S : Nat → ASt} {dst : Nat → Option Nat} {t p : Nat} : ∀ (n : Nat), (∀ j, p ≤ j → j < p + n → dst j ≠ some t → (S (j + 1)).σ.getD t .top = (S j).σ.getD t .top) → vt S dst (fun _ => true) t (List.range' p n) ((S p).σ.getD t .top) = (S (p + n)).σ.getD t .top
  | 0, h => rfl
  | n + 1, h => by
    have ih := vt_text n fun j h1 h2 h3 => h j h1 (by omega) h3
    rw [List.range'_concat, Nat.one_mul, vt_append, ih]
    simp only [vt, List.foldl_cons, List.foldl_nil, Bool.true_and, beq_iff_eq]
    split
    · rfl
    · rename_i hne
      exact (h (p + n) (by omega) (by omega) hne).symm

theorem countP_drop {f g : Nat → Bool} {i : Nat} (hf : f i = true) (hg : g i = false) (hne : ∀ j, j ≠ i → g j = f j) : ∀ (l : List Nat), l.Nodup → i ∈ l → l.countP g + 1 = l.countP f
  | [], _, h => by simp at h
  | j :: l, hn, h => by
    obtain ⟨h1, h2⟩ := List.nodup_cons.1 hn
    by_cases e : j = i
    · subst e
      have : l.countP g = l.countP f := List.countP_congr fun x hx => by rw [hne x (fun e => h1 (e ▸ hx))]
      rw [List.countP_cons, List.countP_cons, hf, hg, this]; simp
    · have ih := countP_drop hf hg hne l h2 (by simpa [Ne.symm e] using h)
      rw [List.countP_cons, List.countP_cons, hne j e]
      omega

/-- All objects, over an operation that turns nothing. -/
theorem Holds.calm {Hq : Heap} {base : Nat} {w' : World} {X' : Nat → Prop} {μ' : Mu} {adds : List AObj} (h : Holds w X μ Hq) (he : Ext w X μ w' X' μ') (hn : New w X μ w' X' μ' base adds) (hq : ∀ k ob, adds[k]? = some ob → lk Hq (base + k) = some ob) : Holds w' X' μ' Hq := by
  have new : ∀ id m, μ' id = some m → μ id = none → ∃ k ob, id = base + k ∧ adds[k]? = some ob ∧ HObj w' X' μ' ob m ∧ X' m.b ∧ w.heap.size ≤ m.b := hn.obj
  refine ⟨fun id m hm => ?_, fun id m hm => ?_, fun i j mi mj hi hj e => ?_, fun b hb => ?_⟩
  · cases h0 : μ id with
    | none => obtain ⟨_, _, _, _, _, h1, _⟩ := new id m hm h0; exact h1
    | some m0 =>
      have := he.mu id m0 h0
      rw [hm] at this; cases this
      exact he.x1 _ (h.x id m h0)
  · cases h0 : μ id with
    | none =>
      obtain ⟨k, ob, rfl, hk, ho, _, _⟩ := new id m hm h0
      exact ⟨ob, hq k ob hk, ho⟩
    | some m0 =>
      have := he.mu id m0 h0
      rw [hm] at this; cases this
      obtain ⟨ob, hob, ho⟩ := h.h id m h0
      exact ⟨ob, hob, he.obj ho⟩
  · cases hi0 : μ i with
    | none =>
      cases hj0 : μ j with
      | none => exact hn.inj i j mi mj hi0 hj0 hi hj e
      | some m0 =>
        have := he.mu j m0 hj0
        rw [hj] at this; cases this
        obtain ⟨_, _, _, _, _, _, h1⟩ := new i mi hi hi0
        have := h.lt _ (h.x j mj hj0)
        omega
    | some m0 =>
      have := he.mu i m0 hi0
      rw [hi] at this; cases this
      cases hj0 : μ j with
      | none =>
        obtain ⟨_, _, _, _, _, _, h1⟩ := new j mj hj hj0
        have := h.lt _ (h.x i mi hi0)
        omega
      | some m1 =>
        have := he.mu j m1 hj0
        rw [hj] at this; cases this
        exact h.inj i j mi mj hi0 hj0 e
  · exact (he.lt b hb).elim (fun h1 => Nat.lt_of_lt_of_le (h.lt b h1) he.size) (fun h => h)

/-- What turns something does the same where places that it doesn't look at aren't known. -/
theorem loud_mask {C : FT} {st s1 : ASt} {base : Nat} {s : SOp} {v : AV} (h : loud C st base s = some (v, s1)) {σ' : List AV} (hσ : ∀ t ∈ stmps s, st.σ.getD t .top = σ'.getD t .top) :
    ∃ g : AV → AV, g .top = .top ∧ s1.σ = st.σ.map g ∧ loud C { st with σ := σ' } base s = some (v, { s1 with σ := σ'.map g }) := by
  have idm : ∀ l : List AV, l.map (fun x => x) = l := fun l => List.map_id' l
  cases s <;> simp only [loud] at h <;> try (cases h; done)
  case store n x y =>
    simp only [stmps, List.mem_append] at hσ
    have e1 := ev_congr (x := x) fun t ht => hσ t (.inl ht)
    have e2 := ev_congr (x := y) fun t ht => hσ t (.inr ht)
    simp only [loud, ← e1, ← e2]
    split at h
    · rename_i id i off ex
      split at h
      · rename_i o hl
        split at h
        · rename_i hc
          split at h
          · rename_i o' hs
            cases h
            refine ⟨fun x => x, rfl, (idm _).symm, ?_⟩
            try simp only [ex, hl, hs]
            rw [if_pos hc, idm]
          · cases h
        · cases h
      · cases h
    · cases h
  case append t sz bytes x y =>
    simp only [stmps, List.mem_append] at hσ
    have e1 := ev_congr (x := x) fun t ht => hσ t (.inl ht)
    have e2 := ev_congr (x := y) fun t ht => hσ t (.inr ht)
    simp only [loud, ← e1, ← e2]
    split at h
    · rename_i id n ex
      split at h
      · rename_i ys o hy hl
        split at h
        · rename_i hc
          split at h
          · rename_i hc2
            cases h
            refine ⟨fun x => x, rfl, (idm _).symm, ?_⟩
            try simp only [ex, hy, hl]
            rw [if_pos hc, if_pos hc2, idm]
          · rename_i hc2
            cases h
            refine ⟨fun x => x.ren (drop1 id), by simp only [AV.ren], rfl, ?_⟩
            try simp only [ex, hy, hl]
            rw [if_pos hc, if_neg hc2]
            rfl
        · cases h
      · cases h
    · rename_i id lo n hn ex
      split at h
      · rename_i ys o hy hl
        split at h
        · rename_i hc
          cases h
          refine ⟨fun x => x.ren (drop1 id), by simp only [AV.ren], rfl, ?_⟩
          try simp only [ex, hy, hl]
          rw [if_pos hc]
          rfl
        · cases h
      · cases h
    · rename_i id ex
      split at h
      · rename_i ys o hy hl
        split at h
        · rename_i hc
          split at h
          · rename_i hc2
            cases h
            refine ⟨fun x => x, rfl, (idm _).symm, ?_⟩
            try simp only [ex, hy, hl]
            rw [if_pos hc, if_pos hc2, idm]
          · rename_i hc2
            cases h
            refine ⟨fun x => x, rfl, (idm _).symm, ?_⟩
            try simp only [ex, hy, hl]
            rw [if_pos hc, if_neg hc2, idm]
        · cases h
      · cases h
    · cases h
  case clear sz zero x =>
    simp only [stmps] at hσ
    have e1 := ev_congr (x := x) fun t ht => hσ t ht
    simp only [loud, ← e1]
    split at h
    · rename_i id lo len ex
      split at h
      · rename_i o hl
        split at h
        · rename_i hc
          cases h
          refine ⟨fun x => x, rfl, (idm _).symm, ?_⟩
          try simp only [ex, hl]
          rw [if_pos hc, idm]
        · cases h
      · cases h
    · cases h
  case appendS t bytes x y =>
    simp only [stmps, List.mem_append] at hσ
    have e1 := ev_congr (x := x) fun t ht => hσ t (.inl ht)
    have e2 := ev_congr (x := y) fun t ht => hσ t (.inr ht)
    simp only [loud, ← e1, ← e2]
    split at h
    · rename_i id n ex
      split at h
      · rename_i ys o hy hl
        split at h
        · rename_i hc
          split at h
          · rename_i hc2
            cases h
            refine ⟨fun x => x, rfl, (idm _).symm, ?_⟩
            try simp only [ex, hy, hl]
            rw [if_pos hc, if_pos hc2, idm]
          · rename_i hc2
            cases h
            refine ⟨fun x => x.ren (drop1 id), by simp only [AV.ren], rfl, ?_⟩
            try simp only [ex, hy, hl]
            rw [if_pos hc, if_neg hc2]
            rfl
        · cases h
      · cases h
    · cases h
  case call f mode as =>
    simp only [stmps, List.mem_append] at hσ
    have e1 := target_congr (f := f) fun t ht => hσ t (.inl ht)
    have e2 := evs_congr (xs := as) fun t ht => hσ t (.inr ht)
    simp only [loud, ← e1, ← e2]
    split at h
    · rename_i g a b ex
      split at h
      · rename_i as' G os L ha
        split at h
        · rename_i r Hs hc
          split at h
          · cases h
          · rename_i h1
            split at h
            · cases h
            · rename_i h2
              split at h
              · rename_i h3
                split at h
                · cases h
                · rename_i h4
                  cases h
                  refine ⟨fun x => (AV.fz L (clo (others st.H L) 504 st.H) x).ren (dropL (moved G os Hs)), by simp only [AV.fz, AV.ren], by simp only [behind, freeze, List.map_map]; rfl, ?_⟩
                  try simp only [ex, ha, hc]
                  rw [if_neg h1, if_neg h2, if_pos h3, if_neg h4]
                  simp only [behind, freeze, List.map_map]
                  rfl
              · rename_i h3
                cases h
                refine ⟨AV.ren (dropL (moved G os Hs)), by simp only [AV.ren], rfl, ?_⟩
                try simp only [ex, ha, hc]
                rw [if_neg h1, if_neg h2, if_neg h3]
                rfl
        · cases h
      · cases h
    · cases h
  case callF f mode as =>
    simp only [stmps, List.mem_append] at hσ
    have e1 := target_congr (f := f) fun t ht => hσ t (.inl ht)
    have e2 := evs_congr (xs := as) fun t ht => hσ t (.inr ht)
    simp only [loud, ← e1, ← e2]
    split at h
    · rename_i g a b ex
      split at h
      · rename_i as' L ha
        split at h
        · cases h
        · rename_i h1
          split at h
          · rename_i r Hs hc
            split at h
            · rename_i h2
              split at h
              · cases h
              · rename_i h3
                cases h
                refine ⟨AV.fz L (clo (others st.H L) 504 st.H), by simp only [AV.fz], rfl, ?_⟩
                try simp only [ex, ha, hc]
                rw [if_neg h1, if_pos h2, if_neg h3]
                rfl
            · cases h
          · cases h
      · cases h
    · cases h

/-- An operation that comes to the same later, too. -/
def Late (sos : List SOper) (nx : Nat) (s : ASt) (j : Nat) : Prop := ∃ so, sos[j]? = some so ∧ (∀ w sw d, j ≤ w → sos[w]? = some sw → sw.dst = some d → d ∉ looks so ∧ (j < w → so.dst ≠ some d)) ∧
  ((guardOf s.σ so.guard = some false ∧ ∀ d, so.dst = some d → s.σ.getD d .top = .tup []) ∨
   (guardOf s.σ so.guard = some true ∧ ∃ v, calm (fun _ _ _ => none) s.σ s.H (nx + 64 * j) so.op = some (v, []) ∧ ∀ d, so.dst = some d → s.σ.getD d .top = v))

theorem late_of {sos : List SOper} {s : ASt} {j : Nat} {so : SOper} (hj : sos[j]? = some so) (hs : ∀ w sw d, j ≤ w → sos[w]? = some sw → sw.dst = some d → d ∉ looks so ∧ (j < w → so.dst ≠ some d)) (h : late1 s ⟨j, so.dst, so.op, so.guard⟩ = true) : Late sos s.nxt s j := by
  refine ⟨so, hj, hs, ?_⟩
  unfold late1 at h
  simp only [] at h
  split at h
  · cases h
  · rename_i hg
    refine .inl ⟨hg, fun d hd => ?_⟩
    rw [hd] at h
    simpa using h
  · rename_i hg
    right
    split at h
    · rename_i v hc
      refine ⟨hg, v, hc, fun d hd => ?_⟩
      rw [hd] at h
      simpa using h
    · cases h

/-- The region's orders: where they stand. -/
structure Inv (C : FT) (sos : List SOper) (S : Nat → ASt) (nx : Nat) (dst : Nat → Option Nat) (listed : Array Bool) (p q : Nat) (a : Act) (w0 : World) (X0 : Nat → Prop) (μ0 : Mu) (w : World) (X : Nat → Prop) (μ : Mu) : Prop where
  pq : p ≤ q ∧ q ≤ sos.length
  size : listed.size = sos.length
  low : ∀ j, j < p → listed.getD j true = true ∨ Late sos nx (S p) j
  high : ∀ j, q ≤ j → j < sos.length → listed.getD j true = false
  quiet : ∀ j so, p ≤ j → j < q → sos[j]? = some so → (guardOf (S j).σ so.guard = some false ∧ S (j + 1) = put (S j) so.dst (.tup [])) ∨
    (guardOf (S j).σ so.guard = some true ∧ ∃ v adds, calm C (S j).σ (S j).H (nx + 64 * j) so.op = some (v, adds) ∧ adds.length ≤ 64 ∧ S (j + 1) = put { S j with H := zipFrom (nx + 64 * j) adds ++ (S j).H } so.dst v)
  bar : q < sos.length → ∀ so, sos[q]? = some so → so.bar = true ∧ guardOf (S q).σ so.guard = some true ∧ ∃ v s1, loud C (S q) (nx + 64 * q) so.op = some (v, s1) ∧ S (q + 1) = put s1 so.dst v ∧ so.late.all (late1 (S (q + 1))) = true
  len : a.tmps.size = (S p).σ.length
  lens : ∀ j, p ≤ j → j ≤ q → (S j).σ.length = (S p).σ.length
  σ : ∀ t, t < a.tmps.size → (∀ j, j < p → listed.getD j true = false → dst j ≠ some t) → Rep w X μ (vt S dst (fun j => listed.getD j true) t (List.range' p (q - p)) ((S p).σ.getD t .top)) (a.tmps.getD t undef)
  H : Holds w X μ (S q).H
  hb : ∀ k ob, lk (S p).H k = some ob → k < nx + 64 * p
  mb : ∀ k, μ k ≠ none → k < nx + 64 * p ∨ ∃ j, p ≤ j ∧ j < q ∧ listed.getD j true = true ∧ nx + 64 * j ≤ k ∧ k < nx + 64 * (j + 1)
  fr : Fr w0 X0 μ0 w X μ
  d : a.defers = []

theorem grow_H {C : FT} {sos : List SOper} {S : Nat → ASt} {nx p q : Nat} (quiet : ∀ j so, p ≤ j → j < q → sos[j]? = some so → (guardOf (S j).σ so.guard = some false ∧ S (j + 1) = put (S j) so.dst (.tup [])) ∨
    (guardOf (S j).σ so.guard = some true ∧ ∃ v adds, calm C (S j).σ (S j).H (nx + 64 * j) so.op = some (v, adds) ∧ adds.length ≤ 64 ∧ S (j + 1) = put { S j with H := zipFrom (nx + 64 * j) adds ++ (S j).H } so.dst v)) (hq : q ≤ sos.length) :
    ∀ (n i : Nat), p ≤ i → i + n ≤ q → ∀ id, id < nx + 64 * i → lk (S (i + n)).H id = lk (S i).H id
  | 0, i, _, _, id, _ => rfl
  | n + 1, i, h1, h2, id, h3 => by
    have ih := grow_H quiet hq n i h1 (by omega) id h3
    rw [← ih]
    have hlt : i + n < sos.length := by omega
    rcases quiet (i + n) _ (by omega) (by omega) (List.getElem?_eq_getElem hlt) with ⟨_, e⟩ | ⟨_, v, adds, _, _, e⟩
    · rw [show i + (n + 1) = i + n + 1 by omega, e, put_H]
    · rw [show i + (n + 1) = i + n + 1 by omega, e, put_H]
      show lk (zipFrom (nx + 64 * (i + n)) adds ++ (S (i + n)).H) id = _
      rw [lk_app, lk_zip_none _ _ _ (.inl (by omega))]

theorem hb_at {C : FT} {sos : List SOper} {S : Nat → ASt} {nx p q : Nat} (quiet : ∀ j so, p ≤ j → j < q → sos[j]? = some so → (guardOf (S j).σ so.guard = some false ∧ S (j + 1) = put (S j) so.dst (.tup [])) ∨
    (guardOf (S j).σ so.guard = some true ∧ ∃ v adds, calm C (S j).σ (S j).H (nx + 64 * j) so.op = some (v, adds) ∧ adds.length ≤ 64 ∧ S (j + 1) = put { S j with H := zipFrom (nx + 64 * j) adds ++ (S j).H } so.dst v)) (hq : q ≤ sos.length)
    (hb : ∀ k ob, lk (S p).H k = some ob → k < nx + 64 * p) : ∀ (n : Nat), p + n ≤ q → ∀ k ob, lk (S (p + n)).H k = some ob → k < nx + 64 * (p + n)
  | 0, _, k, ob, h => hb k ob h
  | n + 1, h2, k, ob, h => by
    have ih := hb_at quiet hq hb n (by omega)
    have hlt : p + n < sos.length := by omega
    rcases quiet (p + n) _ (by omega) (by omega) (List.getElem?_eq_getElem hlt) with ⟨_, e⟩ | ⟨_, v, adds, _, hl, e⟩
    · rw [show p + (n + 1) = p + n + 1 by omega, e, put_H] at h
      have := ih k ob h; omega
    · rw [show p + (n + 1) = p + n + 1 by omega, e, put_H] at h
      have h' : lk (zipFrom (nx + 64 * (p + n)) adds ++ (S (p + n)).H) k = some ob := h
      rw [lk_app] at h'
      cases hz : lk (zipFrom (nx + 64 * (p + n)) adds) k with
      | none => rw [hz] at h'; have := ih k ob h'; omega
      | some ob' =>
        obtain ⟨q1, q2⟩ := lk_zip adds _ k ob' hz
        have := (List.getElem?_eq_some_iff.1 q2).1
        omega

/-- All of a group done: the text's own state. -/
theorem Inv.full {C : FT} {sos : List SOper} {S : Nat → ASt} {nx : Nat} {dst : Nat → Option Nat} (hdst : ∀ j so, sos[j]? = some so → dst j = so.dst) {listed : Array Bool} {p q : Nat} {w0 : World} {X0 : Nat → Prop} {μ0 : Mu} (h : Inv C sos S nx dst listed p q a w0 X0 μ0 w X μ) (hall : ∀ j, j < q → listed.getD j true = true) :
    RelA w X μ a (S q) (nx + 64 * q) := by
  have hpq := h.pq
  have hq' : p + (q - p) = q := by omega
  refine ⟨⟨h.len.trans (h.lens q hpq.1 (Nat.le_refl _)).symm, fun t x ht => ?_⟩, h.H, ?_, fun k hk => ?_, h.d⟩
  · have hlt : t < a.tmps.size := by rw [h.len, ← h.lens q hpq.1 (Nat.le_refl _)]; exact (List.getElem?_eq_some_iff.1 ht).1
    have h1 := h.σ t hlt fun j hj hu => by rw [hall j (by omega)] at hu; cases hu
    have e : vt S dst (fun j => listed.getD j true) t (List.range' p (q - p)) ((S p).σ.getD t .top) = (S (p + (q - p))).σ.getD t .top := by
      rw [vt_congr (L' := fun _ => true) (fun j hj _ => hall j (by have := List.mem_range'_1.1 hj; omega))]
      refine vt_text _ fun j h1 h2 h3 => ?_
      have hjl : j < sos.length := by omega
      have hd := hdst j _ (List.getElem?_eq_getElem hjl)
      rcases h.quiet j _ h1 (by omega) (List.getElem?_eq_getElem hjl) with ⟨_, e⟩ | ⟨_, v, adds, _, _, e⟩
      · rw [e, put_at _ _ _ _ (by rw [← hd]; exact h3)]
      · rw [e, put_at _ _ _ _ (by rw [← hd]; exact h3)]
    rw [e, hq'] at h1
    refine ⟨a.tmps[t], Array.getElem?_eq_getElem hlt, ?_⟩
    have e2 : (S q).σ.getD t .top = x := by rw [List.getD_eq_getElem?_getD, ht]; rfl
    rw [e2] at h1
    simpa [hlt] using h1
  · rw [← hq']
    exact hb_at h.quiet hpq.2 h.hb (q - p) (by omega)
  · rcases h.mb k hk with h1 | ⟨j, h1, h2, _, _, h3⟩
    · omega
    · have : nx + 64 * (j + 1) ≤ nx + 64 * q := by omega
      omega

open Classical in
/-- The places that are known: what has been left for later isn't. -/
noncomputable def known (dst : Nat → Option Nat) (listed : Array Bool) (p n : Nat) (f : Nat → AV) : List AV :=
  (List.range n).map fun t => if ∃ j, j < p ∧ listed.getD j true = false ∧ dst j = some t then .top else f t

theorem known_get {dst : Nat → Option Nat} {listed : Array Bool} {p n : Nat} {f : Nat → AV} {t : Nat} (h : ∀ j, j < p → listed.getD j true = false → dst j ≠ some t) (hn : n ≤ t → f t = .top) : (known dst listed p n f).getD t .top = f t := by
  unfold known
  rw [List.getD_eq_getElem?_getD, List.getElem?_map]
  by_cases hlt : t < n
  · rw [List.getElem?_range hlt]
    simp only [Option.map_some, Option.getD_some]
    rw [if_neg]
    rintro ⟨j, h1, h2, h3⟩
    exact h j h1 h2 h3
  · rw [List.getElem?_eq_none (by simpa using hlt)]
    simp only [Option.map_none, Option.getD_none]
    exact (hn (by omega)).symm

theorem known_cases {dst : Nat → Option Nat} {listed : Array Bool} {p n : Nat} {f : Nat → AV} {t : Nat} {x : AV} (h : (known dst listed p n f)[t]? = some x) : t < n ∧ (x = .top ∨ (x = f t ∧ ∀ j, j < p → listed.getD j true = false → dst j ≠ some t)) := by
  unfold known at h
  rw [List.getElem?_map] at h
  obtain ⟨t', ht', rfl⟩ := Option.map_eq_some_iff.1 h
  obtain ⟨hlt, e⟩ := List.getElem?_eq_some_iff.1 ht'
  simp at e hlt
  subst e
  refine ⟨hlt, ?_⟩
  split
  · exact .inl rfl
  · rename_i hne
    exact .inr ⟨rfl, fun j h1 h2 h3 => hne ⟨j, h1, h2, h3⟩⟩

theorem known_len {dst : Nat → Option Nat} {listed : Array Bool} {p n : Nat} {f : Nat → AV} : (known dst listed p n f).length = n := by simp [known]

theorem Inv.places {C : FT} {sos : List SOper} {S : Nat → ASt} {nx : Nat} {dst : Nat → Option Nat} {listed : Array Bool} {p q : Nat} {w0 : World} {X0 : Nat → Prop} {μ0 : Mu} (h : Inv C sos S nx dst listed p q a w0 X0 μ0 w X μ) :
    RelS w X μ a (known dst listed p a.tmps.size fun t => vt S dst (fun j => listed.getD j true) t (List.range' p (q - p)) ((S p).σ.getD t .top)) := by
  refine ⟨known_len.symm, fun t x ht => ?_⟩
  obtain ⟨hlt, hx⟩ := known_cases ht
  refine ⟨a.tmps[t], Array.getElem?_eq_getElem hlt, ?_⟩
  rcases hx with rfl | ⟨rfl, hne⟩
  · exact .top _
  · have := h.σ t hlt hne
    simpa [hlt] using this

theorem Inv.text {C : FT} {sos : List SOper} {S : Nat → ASt} {nx : Nat} {dst : Nat → Option Nat} (hdst : ∀ j so, sos[j]? = some so → dst j = so.dst) {listed : Array Bool} {p q : Nat} {w0 : World} {X0 : Nat → Prop} {μ0 : Mu} (h : Inv C sos S nx dst listed p q a w0 X0 μ0 w X μ) {t n : Nat} (hn : p + n ≤ q) :
    vt S dst (fun _ => true) t (List.range' p n) ((S p).σ.getD t .top) = (S (p + n)).σ.getD t .top := by
  have hpq := h.pq
  refine vt_text _ fun j h1 h2 h3 => ?_
  have hjl : j < sos.length := by omega
  have hd := hdst j _ (List.getElem?_eq_getElem hjl)
  rcases h.quiet j _ h1 (by omega) (List.getElem?_eq_getElem hjl) with ⟨_, e⟩ | ⟨_, v, adds, _, _, e⟩
  · rw [e, put_at _ _ _ _ (by rw [← hd]; exact h3)]
  · rw [e, put_at _ _ _ _ (by rw [← hd]; exact h3)]

/-- What is known at the end of a group, some of its operations left for later. -/
theorem Inv.masked {C : FT} {sos : List SOper} {S : Nat → ASt} {nx : Nat} {dst : Nat → Option Nat} (hdst : ∀ j so, sos[j]? = some so → dst j = so.dst) {listed : Array Bool} {p q : Nat} {w0 : World} {X0 : Nat → Prop} {μ0 : Mu} (h : Inv C sos S nx dst listed p q a w0 X0 μ0 w X μ) :
    RelA w X μ a { S q with σ := known dst listed q a.tmps.size fun t => (S q).σ.getD t .top } (nx + 64 * q) := by
  have hpq := h.pq
  have hq' : p + (q - p) = q := by omega
  refine ⟨⟨known_len.symm, fun t x ht => ?_⟩, h.H, ?_, fun k hk => ?_, h.d⟩
  · obtain ⟨hlt, hx⟩ := known_cases ht
    refine ⟨a.tmps[t], Array.getElem?_eq_getElem hlt, ?_⟩
    rcases hx with rfl | ⟨rfl, hne⟩
    · exact .top _
    · have h1 := h.σ t hlt fun j hj hu => hne j (by omega) hu
      have e : vt S dst (fun j => listed.getD j true) t (List.range' p (q - p)) ((S p).σ.getD t .top) = (S (p + (q - p))).σ.getD t .top := by
        rw [vt_congr (L' := fun _ => true) (fun j hj hd => by
          have := List.mem_range'_1.1 hj
          cases hl : listed.getD j true with
          | true => rfl
          | false => exact absurd hd (hne j (by omega) hl))]
        exact h.text hdst (by omega)
      rw [e, hq'] at h1
      simpa [hlt] using h1
  · show ∀ k ob, lk (S q).H k = some ob → k < nx + 64 * q
    rw [← hq']
    exact hb_at h.quiet hpq.2 h.hb (q - p) (by omega)
  · rcases h.mb k hk with h1 | ⟨j, h1, h2, _, _, h3⟩
    · omega
    · have : nx + 64 * (j + 1) ≤ nx + 64 * q := by omega
      omega

/-- A new group. -/
theorem Inv.new {C : FT} {sos : List SOper} {S : Nat → ASt} {nx : Nat} {dst : Nat → Option Nat} (hst : ∀ j so, sos[j]? = some so → Step C nx so j (S j) (S (j + 1))) {listed : Array Bool} {p : Nat} {w0 : World} {X0 : Nat → Prop} {μ0 : Mu} (hp : p ≤ sos.length) (hsz : listed.size = sos.length) (hlow : ∀ j, j < p → listed.getD j true = true ∨ Late sos nx (S p) j)
    (hhigh : ∀ j, p ≤ j → j < sos.length → listed.getD j true = false) {σ' : List AV} (hσl : σ'.length = (S p).σ.length) (hσ' : ∀ t, (∀ j, j < p → listed.getD j true = false → dst j ≠ some t) → σ'.getD t .top = (S p).σ.getD t .top) (hr : RelA w X μ a { S p with σ := σ' } (nx + 64 * p)) (hf : Fr w0 X0 μ0 w X μ) : ∃ q, Inv C sos S nx dst listed p q a w0 X0 μ0 w X μ := by
  -- how far the quiet operations reach
  have ex : ∀ n, ∀ i, p ≤ i → i ≤ sos.length → sos.length - i = n → (∀ j so, p ≤ j → j < i → sos[j]? = some so → (guardOf (S j).σ so.guard = some false ∧ S (j + 1) = put (S j) so.dst (.tup [])) ∨
      (guardOf (S j).σ so.guard = some true ∧ ∃ v adds, calm C (S j).σ (S j).H (nx + 64 * j) so.op = some (v, adds) ∧ adds.length ≤ 64 ∧ S (j + 1) = put { S j with H := zipFrom (nx + 64 * j) adds ++ (S j).H } so.dst v)) →
      ∃ q, p ≤ q ∧ q ≤ sos.length ∧ (∀ j so, p ≤ j → j < q → sos[j]? = some so → (guardOf (S j).σ so.guard = some false ∧ S (j + 1) = put (S j) so.dst (.tup [])) ∨
      (guardOf (S j).σ so.guard = some true ∧ ∃ v adds, calm C (S j).σ (S j).H (nx + 64 * j) so.op = some (v, adds) ∧ adds.length ≤ 64 ∧ S (j + 1) = put { S j with H := zipFrom (nx + 64 * j) adds ++ (S j).H } so.dst v)) ∧
      (q < sos.length → ∀ so, sos[q]? = some so → so.bar = true ∧ guardOf (S q).σ so.guard = some true ∧ ∃ v s1, loud C (S q) (nx + 64 * q) so.op = some (v, s1) ∧ S (q + 1) = put s1 so.dst v ∧ so.late.all (late1 (S (q + 1))) = true) := by
    intro n
    induction n with
    | zero => intro i h1 h2 h3 h4; exact ⟨i, h1, h2, h4, fun h => by omega⟩
    | succ n ih =>
      intro i h1 h2 h3 h4
      have hil : i < sos.length := by omega
      rcases hst i _ (List.getElem?_eq_getElem hil) with hs | hs | ⟨hg, hb, v, s1, hl, he, hlt⟩
      · refine ih (i + 1) (by omega) (by omega) (by omega) fun j so hj1 hj2 hj => ?_
        by_cases e : j = i
        · subst e
          rw [List.getElem?_eq_getElem hil] at hj; cases hj
          exact .inl hs
        · exact h4 j so hj1 (by omega) hj
      · refine ih (i + 1) (by omega) (by omega) (by omega) fun j so hj1 hj2 hj => ?_
        by_cases e : j = i
        · subst e
          rw [List.getElem?_eq_getElem hil] at hj; cases hj
          exact .inr hs
        · exact h4 j so hj1 (by omega) hj
      · refine ⟨i, h1, h2, h4, fun _ so hso => ?_⟩
        rw [List.getElem?_eq_getElem hil] at hso; cases hso
        exact ⟨hb, hg, v, s1, hl, he, hlt⟩
  obtain ⟨q, q1, q2, q3, q4⟩ := ex _ p (Nat.le_refl _) hp rfl fun j so h1 h2 => by omega
  have hlens : ∀ n, p + n ≤ q → (S (p + n)).σ.length = (S p).σ.length := by
    intro n
    induction n with
    | zero => intro _; rfl
    | succ n ih =>
      intro h
      rw [← ih (by omega)]
      have hlt : p + n < sos.length := by omega
      rcases q3 (p + n) _ (by omega) (by omega) (List.getElem?_eq_getElem hlt) with ⟨_, e⟩ | ⟨_, v, adds, _, _, e⟩
      · rw [show p + (n + 1) = p + n + 1 by omega, e, put_len]
      · rw [show p + (n + 1) = p + n + 1 by omega, e, put_len]
  refine ⟨q, ⟨q1, q2⟩, hsz, hlow, fun j h1 h2 => hhigh j (by omega) h2, q3, q4, hr.σ.size.trans hσl, fun j h1 h2 => by
    have := hlens (j - p) (by omega)
    rwa [show p + (j - p) = j by omega] at this, fun t ht hne => ?_, ⟨hr.H.x, fun id m hm => ?_, hr.H.inj, hr.H.lt⟩, hr.hb, fun k hk => .inl (hr.mb k hk), hf, hr.d⟩
  · rw [vt_none fun j hj _ => by
      have := List.mem_range'_1.1 hj
      exact hhigh j this.1 (by omega)]
    have hl : t < σ'.length := by rw [← hr.σ.size]; exact ht
    obtain ⟨v, hv, hrv⟩ := hr.σ.v t _ (List.getElem?_eq_getElem hl)
    rw [← hσ' t hne, List.getD_eq_getElem?_getD, List.getElem?_eq_getElem hl]
    simpa [hv] using hrv
  · obtain ⟨ob, hl, ho⟩ := hr.H.h id m hm
    refine ⟨ob, ?_, ho⟩
    have := grow_H q3 q2 (q - p) p (Nat.le_refl _) (by omega) id (hr.hb id ob hl)
    rw [show p + (q - p) = q by omega] at this
    rw [this]; exact hl

theorem getD_set {listed : Array Bool} {i j : Nat} (hi : i < listed.size) : (listed.setIfInBounds i true).getD j true = if j = i then true else listed.getD j true := by
  simp only [Array.getD_eq_getD_getElem?, Array.getElem?_setIfInBounds]
  by_cases e : i = j
  · subst e; simp [hi]
  · simp [e, Ne.symm e]

theorem getD_keep {listed : Array Bool} {i j : Nat} (hi : i < listed.size) (h : listed.getD j true = true) : (listed.setIfInBounds i true).getD j true = true := by
  rw [getD_set hi]
  split
  · rfl
  · exact h

set_option maxHeartbeats 1000000 in
theorem inv_sound {C : FT} (hC : CSound P C) {gr : List Nat} {ops : Array Oper} {Q : Exit → Act → World → Prop} {sos : List SOper} {S : Nat → ASt} {nx : Nat} {dst : Nat → Option Nat} (hdst : ∀ j so, sos[j]? = some so → dst j = so.dst) (hlen : sos.length = ops.size)
    (hcs : ∀ (j : Nat) (so : SOper), sos[j]? = some so → ∃ o : Oper, ops[j]? = some o ∧ Comp1 P gr ops o so) (htmp : tmpsOk sos (befs ops.toList []) = true) (hedge : edgesOk ops.toList = true) (hbar : ∀ (j : Nat) (so : SOper), sos[j]? = some so → so.bar = true → LateOk sos (befs ops.toList []) j so)
    (hst : ∀ j so, sos[j]? = some so → Step C nx so j (S j) (S (j + 1))) {k0 : Nat} (hnx : ∀ j, j ≤ sos.length → (S j).nxt = nx ∧ (S j).k = k0) {w0 : World} {X0 : Nat → Prop} {μ0 : Mu} (h0 : ∀ id, μ0 id ≠ none → id < k0)
    (hk : ∀ a' w' X' μ', RelA w' X' μ' a' (S sos.length) (nx + 64 * sos.length) → Fr w0 X0 μ0 w' X' μ' → Q .normal a' w') :
    ∀ (fuel : Nat) (listed : Array Bool) (p q : Nat) (a : Act) (w : World) (X : Nat → Prop) (μ : Mu), Inv C sos S nx dst listed p q a w0 X0 μ0 w X μ → (∀ i, i < sos.length → listed.getD i true = true → ∀ k, ((befs ops.toList []).getD i 0).testBit k = true → listed.getD k true = true) →
      (List.range sos.length).countP (fun j => !listed.getD j true) ≤ fuel → wpAny P .any ops Q fuel listed a w := by
  have hready : ∀ (listed : Array Bool), listed.size = sos.length → (∃ i, i < sos.length ∧ listed.getD i true = false) → ∃ i, i ∈ Region.ready .any ops listed := by
    intro listed hsz ⟨i0, h1, h2⟩
    -- the least one
    have : ∃ i, i < sos.length ∧ listed.getD i true = false ∧ ∀ j, j < i → listed.getD j true = true := by
      have key : ∀ n, (∃ i, i < n ∧ i < sos.length ∧ listed.getD i true = false) → ∃ i, i < sos.length ∧ listed.getD i true = false ∧ ∀ j, j < i → listed.getD j true = true := by
        intro n
        induction n with
        | zero => rintro ⟨i, h, _⟩; omega
        | succ n ih =>
          rintro ⟨i, h1, h2, h3⟩
          by_cases hex : ∃ i, i < n ∧ i < sos.length ∧ listed.getD i true = false
          · exact ih hex
          · have hin : i = n := by
              rcases Nat.lt_or_ge i n with h | h
              · exact absurd ⟨i, h, h2, h3⟩ hex
              · omega
            subst hin
            refine ⟨i, h2, h3, fun j hj => ?_⟩
            cases hj' : listed.getD j true with
            | true => rfl
            | false => exact absurd ⟨j, hj, by omega, hj'⟩ hex
      exact key (i0 + 1) ⟨i0, by omega, h1, h2⟩
    obtain ⟨i, h3, h4, h5⟩ := this
    obtain ⟨o, ho, _⟩ := hcs i _ (List.getElem?_eq_getElem h3)
    refine ⟨i, ?_⟩
    unfold Region.ready
    rw [List.mem_filter]
    refine ⟨List.mem_range.2 (by omega), ?_⟩
    rw [h4, ho]
    simp only [Bool.not_false, Bool.true_and, Option.map_some, Option.getD_some]
    rw [Array.all_eq_true_iff_forall_mem]
    intro e he
    have hed := hedge
    unfold edgesOk at hed
    rw [List.all_eq_true] at hed
    have h6 := hed (o, i) (by
      rw [List.mem_zipIdx_iff_getElem?]
      simpa using ho)
    simp only [List.all_eq_true] at h6
    have h7 := h6 e (Array.mem_toList_iff.2 he)
    simp only [Bool.or_eq_true, Bool.not_eq_true', decide_eq_true_eq] at h7 ⊢
    rcases h7 with h7 | h7
    · exact .inl h7
    · right
      have := h5 e.on h7
      have hlt : e.on < listed.size := by omega
      simpa [hlt] using this
  have hreadyI : ∀ (listed : Array Bool) (i : Nat), listed.size = sos.length → i ∈ Region.ready .any ops listed → i < sos.length ∧ listed.getD i true = false ∧ ∀ o, ops[i]? = some o → ∀ e ∈ o.after.toList, Region.binds .any e = true → listed.getD e.on true = true := by
    intro listed i hsz h
    unfold Region.ready at h
    rw [List.mem_filter] at h
    obtain ⟨h1, h2⟩ := h
    have hil : i < sos.length := by have := List.mem_range.1 h1; omega
    simp only [Bool.and_eq_true, Bool.not_eq_true'] at h2
    refine ⟨hil, h2.1, fun o ho e he hb => ?_⟩
    have h3 := h2.2
    rw [ho] at h3
    simp only [Option.map_some, Option.getD_some] at h3
    rw [Array.all_eq_true_iff_forall_mem] at h3
    have h4 := h3 e (Array.mem_toList_iff.1 he)
    rw [hb] at h4
    simp only [Bool.not_true, Bool.false_or] at h4
    have hlt : e.on < listed.size := by
      rcases Nat.lt_or_ge e.on listed.size with h | h
      · exact h
      · simp [Array.getElem?_eq_none h] at h4
    simpa [hlt] using h4
  intro fuel
  induction fuel with
  | zero =>
    intro listed p q a w X μ hI hcl hcnt
    have hall : ∀ j, j < sos.length → listed.getD j true = true := by
      intro j hj
      cases hq : listed.getD j true with
      | true => rfl
      | false =>
        have hpos : 0 < (List.range sos.length).countP (fun j => !listed.getD j true) := List.countP_pos_iff.2 ⟨j, List.mem_range.2 hj, by rw [hq]; rfl⟩
        omega
    have hqn : q = sos.length := by
      rcases Nat.lt_or_ge q sos.length with h | h
      · have h1 := hI.high q (Nat.le_refl _) h
        rw [hall q h] at h1; cases h1
      · have := hI.pq; omega
    refine ⟨?_, ?_⟩
    · cases hr : Region.ready .any ops listed with
      | nil => rfl
      | cons i l =>
        have := hreadyI listed i hI.size (by rw [hr]; simp)
        rw [hall i this.1] at this
        cases this.2.1
    · have := hI.full hdst fun j hj => hall j (by omega)
      rw [hqn] at this
      exact hk a w X μ this hI.fr
  | succ fuel ih =>
    intro listed p q a w X μ hI hcl hcnt
    refine ⟨fun hnil => ?_, fun i hi => ?_⟩
    · have hall : ∀ j, j < sos.length → listed.getD j true = true := by
        intro j hj
        cases hq : listed.getD j true with
        | true => rfl
        | false =>
          obtain ⟨i, hi⟩ := hready listed hI.size ⟨j, hj, hq⟩
          rw [hnil] at hi; cases hi
      have hqn : q = sos.length := by
        rcases Nat.lt_or_ge q sos.length with h | h
        · have h1 := hI.high q (Nat.le_refl _) h
          rw [hall q h] at h1; cases h1
        · have := hI.pq; omega
      have := hI.full hdst fun j hj => hall j (by omega)
      rw [hqn] at this
      exact hk a w X μ this hI.fr
    · obtain ⟨hil, hun, hdeps⟩ := hreadyI listed i hI.size hi
      obtain ⟨o, ho, hc⟩ := hcs i _ (List.getElem?_eq_getElem hil)
      have hsz : i < listed.size := by rw [hI.size]; exact hil
      -- what stands ahead has been done
      have hahead : ∀ k, ((befs ops.toList []).getD i 0).testBit k = true → listed.getD k true = true := by
        intro k hk'
        obtain ⟨e, he, hb, h1⟩ := befs_bits (by simpa using ho) hk'
        have h2 := hdeps o ho e he hb
        rcases h1 with h1 | ⟨h1, h3⟩
        · rw [← h1]; exact h2
        · exact hcl e.on (by omega) h2 k h3
      have hcl' : ∀ i', i' < sos.length → (listed.setIfInBounds i true).getD i' true = true → ∀ k, ((befs ops.toList []).getD i' 0).testBit k = true → (listed.setIfInBounds i true).getD k true = true := by
        intro i' h1 h2 k h3
        rw [getD_set hsz] at h2 ⊢
        split
        · rfl
        · split at h2
          · rename_i e; subst e; exact hahead k h3
          · exact hcl i' h1 h2 k h3
      have hcnt' : (List.range sos.length).countP (fun j => !(listed.setIfInBounds i true).getD j true) ≤ fuel := by
        have := countP_drop (f := fun j => !listed.getD j true) (g := fun j => !(listed.setIfInBounds i true).getD j true) (i := i) (by rw [hun]; rfl) (by rw [getD_set hsz]; simp) (fun j hj => by rw [getD_set hsz, if_neg hj]) (List.range sos.length) List.nodup_range (List.mem_range.2 hil)
        omega
      have hdi : dst i = o.dst := by rw [hdst i _ (List.getElem?_eq_getElem hil), hc.dst]
      have hgk : ∀ j, listed.getD j true = true → (listed.setIfInBounds i true).getD j true = true := fun j h => getD_keep hsz h
      -- what comes of a quiet one
      have next : i < q → ∀ (v : AV) (v' : Value) (w' : World) (X' : Nat → Prop) (μ' : Mu), Rep w' X' μ' v v' → (∀ t, dst i = some t → t < a.tmps.size → (∀ j, j < p → (listed.setIfInBounds i true).getD j true = false → dst j ≠ some t) → vt S dst (fun j => (listed.setIfInBounds i true).getD j true) t (List.range' p (q - p)) ((S p).σ.getD t .top) = v) → (∀ {x u}, Rep w X μ x u → Rep w' X' μ' x u) → Holds w' X' μ' (S q).H →
          (∀ k, μ' k ≠ none → μ k ≠ none ∨ (p ≤ i ∧ nx + 64 * i ≤ k ∧ k < nx + 64 * (i + 1))) → Fr w0 X0 μ0 w' X' μ' → wpAny P .any ops Q fuel (listed.setIfInBounds i true) (a.put o.dst v') w' := by
        intro hiq v v' w' X' μ' hv hval hmv hHq hdom hfr'
        have hts : (a.put o.dst v').tmps.size = a.tmps.size := by cases o.dst <;> simp [Act.put]
        refine ih _ p q _ w' X' μ' ⟨hI.pq, by simpa using hI.size, fun j hj => (hI.low j hj).imp (hgk j) (fun h => h), fun j h1 h2 => by rw [getD_set hsz, if_neg (by omega)]; exact hI.high j h1 h2, hI.quiet, hI.bar, by rw [hts]; exact hI.len, hI.lens, fun t ht hne => ?_, hHq, hI.hb, fun k hk' => ?_, hfr', by cases o.dst <;> exact hI.d⟩ hcl' hcnt'
        · rw [hts] at ht
          by_cases hd : dst i = some t
          · rw [hval t hd ht hne, show a.put o.dst v' = a.put (some t) v' by rw [← hdi, hd]]
            simpa [Act.put, ht] using hv
          · rw [vt_congr (L' := fun j => listed.getD j true) (fun j hj hdj => by
              rw [getD_set hsz, if_neg (fun (e : j = i) => hd (by rw [← e]; exact hdj))])]
            have := hmv (hI.σ t ht fun j hj hu hdj => by
              by_cases e : j = i
              · subst e; exact hd hdj
              · exact hne j hj (by rw [getD_set hsz, if_neg e]; exact hu) hdj)
            have he : (a.put o.dst v').tmps.getD t undef = a.tmps.getD t undef := by
              cases hod : o.dst with
              | none => rfl
              | some d =>
                have hne : d ≠ t := fun e => hd (by rw [hdi, hod, e])
                simp [Act.put, Array.getElem?_setIfInBounds_ne hne]
            rw [he]; exact this
        · rcases hdom k hk' with h1 | ⟨h0, h1, h2⟩
          · rcases hI.mb k h1 with h3 | ⟨j, j1, j2, j3, j4⟩
            · exact .inl h3
            · exact .inr ⟨j, j1, j2, getD_keep hsz j3, j4⟩
          · exact .inr ⟨i, h0, hiq, by rw [getD_set hsz]; simp, h1, h2⟩
      have hpl := hI.places
      -- what it looks at is known
      have hsee : ∀ t, t ∈ looks sos[i] → (∀ j, j < p → listed.getD j true = false → j ≠ i → i < j → dst j ≠ some t) → (dst i ≠ some t ∨ p ≤ i) → ∀ j, j < p → listed.getD j true = false → dst j ≠ some t := by
        intro t ht h1 h2 j hj hu hd
        have hjl : j < sos.length := by have := hI.pq; omega
        have hd' : (sos[j]).dst = some t := by rw [← hdst j _ (List.getElem?_eq_getElem hjl)]; exact hd
        rcases Nat.lt_trichotomy j i with h | h | h
        · have hs := tmpsOk_spec htmp (List.getElem?_eq_getElem hil) (List.getElem?_eq_getElem hjl) hd' (by omega) (.inl ht)
          rw [hahead j (hs.1 h)] at hu; cases hu
        · subst h
          rcases h2 with h2 | h2
          · exact h2 hd
          · omega
        · exact h1 j hj hu (by omega) h hd
      by_cases hip : p ≤ i
      rotate_left
      · -- one that was left for later
        have hip' : i < p := by omega
        have hpq := hI.pq
        obtain ⟨so, hso, hstat, hcase⟩ := (hI.low i hip').resolve_left (by rw [hun]; simp)
        rw [List.getElem?_eq_getElem hil] at hso; cases hso
        have hnw : ∀ t, (t ∈ looks sos[i] ∨ dst i = some t) → ∀ L : Nat → Bool, vt S dst L t (List.range' p (q - p)) ((S p).σ.getD t .top) = (S p).σ.getD t .top := by
          intro t ht L
          refine vt_none fun j hj hd => ?_
          have hm := List.mem_range'_1.1 hj
          have hjl : j < sos.length := by omega
          have hd' : (sos[j]).dst = some t := by rw [← hdst j _ (List.getElem?_eq_getElem hjl)]; exact hd
          obtain ⟨s1, s2⟩ := hstat j _ t (by omega) (List.getElem?_eq_getElem hjl) hd'
          rcases ht with ht | ht
          · exact absurd ht s1
          · exact absurd ((hdst i _ (List.getElem?_eq_getElem hil)).symm.trans ht) (s2 (by omega))
        have hget : ∀ t, t ∈ looks sos[i] → (known dst listed p a.tmps.size fun t => vt S dst (fun j => listed.getD j true) t (List.range' p (q - p)) ((S p).σ.getD t .top)).getD t .top = (S p).σ.getD t .top := by
          intro t ht
          rw [known_get (hsee t ht (fun j hj hu hne hij hd => by
              have hjl : j < sos.length := by omega
              have hd' : (sos[j]).dst = some t := by rw [← hdst j _ (List.getElem?_eq_getElem hjl)]; exact hd
              exact (hstat j _ t (by omega) (List.getElem?_eq_getElem hjl) hd').1 ht) (.inl fun hd => by
              have hd' : (sos[i]).dst = some t := by rw [← hdst i _ (List.getElem?_eq_getElem hil)]; exact hd
              exact (hstat i _ t (Nat.le_refl _) (List.getElem?_eq_getElem hil) hd').1 ht)) (fun hge => by
              rw [hnw t (.inl ht), List.getD_eq_getElem?_getD, List.getElem?_eq_none (by rw [← hI.len]; exact hge)]; rfl)]
          exact hnw t (.inl ht) _
        have hguard : guardOf (known dst listed p a.tmps.size fun t => vt S dst (fun j => listed.getD j true) t (List.range' p (q - p)) ((S p).σ.getD t .top)) (sos[i]).guard = guardOf (S p).σ (sos[i]).guard := by
          cases hg : (sos[i]).guard with
          | none => rfl
          | some g =>
            obtain ⟨t, want⟩ := g
            simp only [guardOf]
            rw [hget t (by unfold looks; rw [hg]; simp)]
        have hd0 : ∀ t, dst i = some t → (sos[i]).dst = some t := fun t h => (hdst i _ (List.getElem?_eq_getElem hil)).symm.trans h
        unfold wpOp
        rw [ho]
        simp only []
        rcases hcase with ⟨hg, hv⟩ | ⟨hg, v, hca, hv⟩
        · rw [if_neg (by rw [wanted_of hc hpl (hguard.trans hg)]; simp)]
          refine next (by omega) (.tup []) undef w X μ (.tup rfl (by simp)) (fun t hd _ _ => ?_) (fun h => h) hI.H (fun k h => .inl h) hI.fr
          rw [hnw t (.inr hd)]
          exact hv t (hd0 t hd)
        · rw [if_pos (wanted_of hc hpl (hguard.trans hg))]
          left
          have hObj : Objs w X μ (S p).H := by
            intro id ob m h1 h2
            obtain ⟨ob', h3, h4⟩ := hI.H.h id m h2
            have := grow_H hI.quiet hpq.2 (q - p) p (Nat.le_refl _) (by omega) id (hI.hb id ob h1)
            rw [show p + (q - p) = q by omega, h3, h1] at this
            cases this; exact h4
          refine calm_sound (C := fun _ _ _ => none) (fun g as Hs r Hs' h => by cases h) hc.op hObj hI.H.x hI.H.inj hI.H.lt hI.H.nc hpl (by rw [calm_congr (σ' := (S p).σ) fun t ht => hget t (by unfold looks; exact List.mem_append_left _ ht)]; exact hca) (fun k hk' => by simp at hk') _ Q fun v' w' X' μ' e1 e2 e3 => ?_
          refine next (by omega) v v' w' X' μ' e2 (fun t hd _ _ => ?_) (fun h => e1.rep h) (hI.H.calm e1 e3 fun k ob hk' => by simp at hk') (fun k hk' => ?_) (hI.fr.ext e1)
          · rw [hnw t (.inr hd)]
            exact hv t (hd0 t hd)
          · obtain ⟨m, hm⟩ := Option.ne_none_iff_exists'.1 hk'
            cases h0 : μ k with
            | some m0 => exact .inl (by simp)
            | none =>
              obtain ⟨k', ob, rfl, h1, _⟩ := e3.obj k m hm h0
              simp at h1
      by_cases hiq : i < q
      · -- a quiet one, in whatever order
        have hSi := hI.quiet i _ hip hiq (List.getElem?_eq_getElem hil)
        have hbi := hb_at hI.quiet hI.pq.2 hI.hb (i - p) (by omega)
        rw [show p + (i - p) = i by omega] at hbi
        -- places
        have horder : ∀ j t, p ≤ j → j < q → dst j = some t → (t ∈ looks sos[i] ∨ dst i = some t) → j ≠ i → (listed.getD j true = true ↔ j < i) := by
          intro j t h1 h2 h3 h4 h5
          have hjl : j < sos.length := by have := hI.pq; omega
          have h3' : (sos[j]).dst = some t := by rw [← hdst j _ (List.getElem?_eq_getElem hjl)]; exact h3
          have h4' : t ∈ looks sos[i] ∨ (sos[i]).dst = some t := h4.imp (fun h => h) (fun h => by rw [← hdst i _ (List.getElem?_eq_getElem hil)]; exact h)
          have hs := tmpsOk_spec htmp (List.getElem?_eq_getElem hil) (List.getElem?_eq_getElem hjl) h3' (Ne.symm h5) h4'
          constructor
          · intro hl
            rcases Nat.lt_or_ge j i with h | h
            · exact h
            · have := hcl j hjl hl i (hs.2 (by omega))
              rw [hun] at this; cases this
          · intro hlt
            exact hahead j (hs.1 hlt)
        have hagree : ∀ t, t ∈ looks sos[i] → vt S dst (fun j => listed.getD j true) t (List.range' p (q - p)) ((S p).σ.getD t .top) = (S i).σ.getD t .top := by
          intro t ht
          have e1 : vt S dst (fun j => listed.getD j true) t (List.range' p (q - p)) ((S p).σ.getD t .top) = vt S dst (fun j => decide (j < i)) t (List.range' p (q - p)) ((S p).σ.getD t .top) := by
            refine vt_congr fun j hj hd => ?_
            have hm := List.mem_range'_1.1 hj
            by_cases e : j = i
            · subst e; rw [hun]; simp
            · have := horder j t hm.1 (by omega) hd (.inl ht) e
              cases hl : listed.getD j true with
              | true => simp [this.1 hl]
              | false =>
                have : ¬ j < i := fun h => by rw [this.2 h] at hl; cases hl
                simp [this]
          have hsplit : List.range' p (q - p) = List.range' p (i - p) ++ List.range' i (q - i) := by
            rw [show q - p = (i - p) + (q - i) by omega, ← List.range'_append_1]
            congr 2
            omega
          rw [e1, hsplit, vt_append, vt_none (js := List.range' i (q - i)) (fun j hj _ => by have := List.mem_range'_1.1 hj; simp; omega), vt_congr (L' := fun _ => true) (fun j hj _ => by have := List.mem_range'_1.1 hj; simp; omega)]
          have := hI.text hdst (t := t) (n := i - p) (by omega)
          rw [this, show p + (i - p) = i by omega]
        have hget : ∀ t, t ∈ looks sos[i] → (known dst listed p a.tmps.size fun t => vt S dst (fun j => listed.getD j true) t (List.range' p (q - p)) ((S p).σ.getD t .top)).getD t .top = (S i).σ.getD t .top := by
          intro t ht
          rw [known_get (hsee t ht (fun j hj hu hne hij => by omega) (.inr hip)) (fun hge => by
            rw [hagree t ht, List.getD_eq_getElem?_getD, List.getElem?_eq_none (by rw [hI.lens i hip (by omega), ← hI.len]; omega)]
            rfl)]
          exact hagree t ht
        have hguard : guardOf (known dst listed p a.tmps.size fun t => vt S dst (fun j => listed.getD j true) t (List.range' p (q - p)) ((S p).σ.getD t .top)) (sos[i]).guard = guardOf (S i).σ (sos[i]).guard := by
          cases hg : (sos[i]).guard with
          | none => rfl
          | some g =>
            obtain ⟨t, want⟩ := g
            simp only [guardOf]
            rw [hget t (by unfold looks; rw [hg]; simp)]
        have hcalm : ∀ base H, calm C (known dst listed p a.tmps.size fun t => vt S dst (fun j => listed.getD j true) t (List.range' p (q - p)) ((S p).σ.getD t .top)) H base (sos[i]).op = calm C (S i).σ H base (sos[i]).op := fun base H =>
          calm_congr fun t ht => hget t (by unfold looks; exact List.mem_append_left _ ht)
        have hval : ∀ v, (∀ t, dst i = some t → t < a.tmps.size → (S (i + 1)).σ.getD t .top = v) → ∀ t, dst i = some t → t < a.tmps.size → (∀ j, j < p → (listed.setIfInBounds i true).getD j true = false → dst j ≠ some t) → vt S dst (fun j => (listed.setIfInBounds i true).getD j true) t (List.range' p (q - p)) ((S p).σ.getD t .top) = v := by
          intro v hSv t hd ht _
          have hsplit : List.range' p (q - p) = List.range' p (i - p) ++ i :: List.range' (i + 1) (q - (i + 1)) := by
            rw [show q - p = (i - p) + (q - i) by omega, ← List.range'_append_1, show p + (i - p) = i by omega, show q - i = (q - (i + 1)) + 1 by omega, List.range'_succ]
          rw [hsplit, vt_set (by rw [getD_set hsz]; simp) hd (fun j hj hdj => by
            have hm := List.mem_range'_1.1 hj
            rw [getD_set hsz, if_neg (by omega)]
            have := horder j t (by omega) (by omega) hdj (.inr hd) (by omega)
            cases hl : listed.getD j true with
            | false => rfl
            | true => have := this.1 hl; omega), hSv t hd ht]
        unfold wpOp
        rw [ho]
        simp only []
        rcases hSi with ⟨hg, hS⟩ | ⟨hg, v, adds, hca, hal, hS⟩
        · rw [if_neg (by rw [wanted_of hc hpl (hguard.trans hg)]; simp)]
          refine next hiq (.tup []) undef w X μ (.tup rfl (by simp)) (hval _ fun t hd ht => ?_) (fun h => h) hI.H (fun k h => .inl h) hI.fr
          rw [hS]
          have hd' : (sos[i]).dst = some t := by rw [← hdst i _ (List.getElem?_eq_getElem hil)]; exact hd
          rw [hd', put_self _ _ _ (by rw [hI.lens i hip (by omega), ← hI.len]; exact ht)]
        · rw [if_pos (wanted_of hc hpl (hguard.trans hg))]
          left
          have hlkq : ∀ id, id < nx + 64 * i → lk (S q).H id = lk (S i).H id := by
            intro id h
            have := grow_H hI.quiet hI.pq.2 (q - i) i hip (by omega) id h
            rwa [show i + (q - i) = q by omega] at this
          have hObj : Objs w X μ (S i).H := by
            intro id ob m h1 h2
            obtain ⟨ob', h3, h4⟩ := hI.H.h id m h2
            rw [hlkq id (hbi id ob h1), h1] at h3
            cases h3; exact h4
          have hfr : ∀ k, k < adds.length → μ (nx + 64 * i + k) = none := by
            intro k hk'
            refine Classical.byContradiction fun hne => ?_
            rcases hI.mb _ hne with h1 | ⟨j, h1, h2, h3, h4, h5⟩
            · omega
            · have : j = i := by omega
              subst this
              rw [hun] at h3; cases h3
          refine calm_sound hC hc.op hObj hI.H.x hI.H.inj hI.H.lt hI.H.nc hpl (by rw [hcalm]; exact hca) hfr _ Q fun v' w' X' μ' e1 e2 e3 => ?_
          refine next hiq v v' w' X' μ' e2 (hval _ fun t hd ht => ?_) (fun h => e1.rep h) (hI.H.calm e1 e3 fun k ob hk' => ?_) (fun k hk' => ?_) (hI.fr.ext e1)
          · rw [hS]
            have hd' : (sos[i]).dst = some t := by rw [← hdst i _ (List.getElem?_eq_getElem hil)]; exact hd
            rw [hd', put_self _ _ _ (by show t < (S i).σ.length; rw [hI.lens i hip (by omega), ← hI.len]; exact ht)]
          · have h1 := grow_H hI.quiet hI.pq.2 (q - (i + 1)) (i + 1) (by omega) (by omega) (nx + 64 * i + k) (by have := (List.getElem?_eq_some_iff.1 hk').1; omega)
            rw [show i + 1 + (q - (i + 1)) = q by omega] at h1
            rw [h1, hS, put_H]
            show lk (zipFrom (nx + 64 * i) adds ++ (S i).H) _ = _
            rw [lk_app, zip_lk adds _ k ob hk']
          · obtain ⟨m, hm⟩ := Option.ne_none_iff_exists'.1 hk'
            cases h0 : μ k with
            | some m0 => exact .inl (by simp)
            | none =>
              obtain ⟨k', ob, rfl, h1, _⟩ := e3.obj k m hm h0
              have := (List.getElem?_eq_some_iff.1 h1).1
              exact .inr ⟨hip, by omega, by omega⟩
      · -- one that turns something: all that stands behind it comes behind it
        have hqi : q ≤ i := by omega
        have hql : q < sos.length := by omega
        obtain ⟨hbq, hgq, v, s1, hl, hS, hlate⟩ := hI.bar hql _ (List.getElem?_eq_getElem hql)
        obtain ⟨hbs, hlt⟩ := hbar q _ (List.getElem?_eq_getElem hql) hbq
        have hiq' : i = q := by
          refine Classical.byContradiction fun hne => ?_
          have := hahead q (hbs i (by omega) hil)
          rw [hI.high q (Nat.le_refl _) hql] at this; cases this
        subst hiq'
        have hm := hI.masked hdst
        -- what it looks at is known
        have hsee2 : ∀ t, t ∈ looks sos[i] → ∀ j, j < i → listed.getD j true = false → dst j ≠ some t := by
          intro t ht j hj hu hd
          have hjl : j < sos.length := by omega
          have hd' : (sos[j]).dst = some t := by rw [← hdst j _ (List.getElem?_eq_getElem hjl)]; exact hd
          have hs := tmpsOk_spec htmp (List.getElem?_eq_getElem hil) (List.getElem?_eq_getElem hjl) hd' (by omega) (.inl ht)
          rw [hahead j (hs.1 hj)] at hu; cases hu
        have hget : ∀ t, t ∈ looks sos[i] → (known dst listed i a.tmps.size fun t => (S i).σ.getD t .top).getD t .top = (S i).σ.getD t .top := by
          intro t ht
          rw [known_get (hsee2 t ht) (fun hge => by
            rw [List.getD_eq_getElem?_getD, List.getElem?_eq_none (by rw [hI.lens i hip (Nat.le_refl _), ← hI.len]; omega)]
            rfl)]
        have hguard : guardOf (known dst listed i a.tmps.size fun t => (S i).σ.getD t .top) (sos[i]).guard = guardOf (S i).σ (sos[i]).guard := by
          cases hg : (sos[i]).guard with
          | none => rfl
          | some g =>
            obtain ⟨t, want⟩ := g
            simp only [guardOf]
            rw [hget t (by unfold looks; rw [hg]; simp)]
        obtain ⟨g, hg0, hg1, hl'⟩ := loud_mask hl (σ' := known dst listed i a.tmps.size fun t => (S i).σ.getD t .top) fun t ht => (hget t (by unfold looks; exact List.mem_append_left _ ht)).symm
        unfold wpOp
        rw [ho]
        simp only []
        rw [if_pos (wanted_of hc hm.σ (hguard.trans hgq))]
        left
        refine loud_step hC hc.op hm hl' fun v' w' X' μ' h1 h2 h3 => ?_
        have hdom := loud_dom hl
        have hk0 := hnx i (by omega)
        have hlenS : (S i).σ.length = a.tmps.size := by rw [hI.lens i hip (Nat.le_refl _), hI.len]
        have hr' : RelA w' X' μ' (a.put o.dst v') { S (i + 1) with σ := (put { s1 with σ := (known dst listed i a.tmps.size fun t => (S i).σ.getD t .top).map g } (sos[i]).dst v).σ } (nx + 64 * (i + 1)) := by
          have := (h1.put h3 o.dst).mono (B' := nx + 64 * (i + 1)) (by omega)
          rw [hS, hc.dst]
          cases hod : o.dst with
          | none => rw [hod] at this; exact this
          | some d => rw [hod] at this; exact this
        obtain ⟨q', hI'⟩ := Inv.new (dst := dst) hst (listed := listed.setIfInBounds i true) (p := i + 1) (by omega) (by simpa using hI.size) (fun j hj => by
          rw [getD_set hsz]; split
          · exact .inl rfl
          · rename_i hne
            have hji : j < i := by omega
            have hjl : j < sos.length := by omega
            cases hu : listed.getD j true with
            | true => exact .inl rfl
            | false =>
              right
              rcases hlt j _ hji (List.getElem?_eq_getElem hjl) with hb | ⟨hmem, hstat⟩
              · rw [hahead j hb] at hu; cases hu
              · rw [List.all_eq_true] at hlate
                have := late_of (List.getElem?_eq_getElem hjl) hstat (hlate _ hmem)
                rwa [(hnx (i + 1) (by omega)).1] at this) (fun j h4 h5 => by rw [getD_set hsz, if_neg (by omega)]; exact hI.high j (by omega) h5)
          (σ' := (put { s1 with σ := (known dst listed i a.tmps.size fun t => (S i).σ.getD t .top).map g } (sos[i]).dst v).σ) (by rw [put_len, hS, put_len, hdom.2.2.2]; simp [known_len, hlenS]) (fun t hne => by
            rw [hS]
            have hun' : ∀ j, j < i → listed.getD j true = false → dst j ≠ some t := fun j hj hu => hne j (by omega) (by rw [getD_set hsz, if_neg (by omega)]; exact hu)
            by_cases hd : (sos[i]).dst = some t
            · rw [hd]
              by_cases hlt : t < a.tmps.size
              · rw [put_self _ _ _ (by show t < _; simpa [known_len] using hlt), put_self _ _ _ (by rw [hdom.2.2.2, hlenS]; exact hlt)]
              · simp only [put, List.getD_eq_getElem?_getD]
                rw [List.getElem?_eq_none (by simp [known_len]; omega), List.getElem?_eq_none (by rw [List.length_set, hdom.2.2.2, hlenS]; omega)]
            · rw [put_at _ _ _ _ hd, put_at _ _ _ _ hd, hg1]
              show ((known dst listed i a.tmps.size fun t => (S i).σ.getD t .top).map g).getD t .top = _
              have e1 := known_get (n := a.tmps.size) (f := fun t => (S i).σ.getD t .top) hun' (fun hge => by
                show (S i).σ.getD t .top = .top
                rw [List.getD_eq_getElem?_getD, List.getElem?_eq_none (by rw [hlenS]; omega)]; rfl)
              have mapg : ∀ l : List AV, (l.map g).getD t .top = g (l.getD t .top) := by
                intro l
                simp only [List.getD_eq_getElem?_getD, List.getElem?_map]
                cases l[t]? with
                | none => exact hg0.symm
                | some x => rfl
              rw [mapg, mapg, e1]) hr' (h2 w0 X0 μ0 (by rw [show ({ S i with σ := known dst listed i a.tmps.size fun t => (S i).σ.getD t .top } : ASt).k = (S i).k from rfl, hk0.2]; exact h0) hI.fr)
        exact ih _ (i + 1) q' _ w' X' μ' hI' hcl' hcnt'

theorem ops_draw {C : FT} (hC : CSound P C) {gr : List Nat} {ops : Array Oper} {Q : Exit → Act → World → Prop} {sos : List SOper} {st stE : ASt} (hlen : sos.length = ops.size) (hcs : ∀ (j : Nat) (so : SOper), sos[j]? = some so → ∃ o : Oper, ops[j]? = some o ∧ Comp1 P gr ops o so)
    (htmp : tmpsOk sos (befs ops.toList []) = true) (hedge : edgesOk ops.toList = true) (hbar : ∀ (j : Nat) (so : SOper), sos[j]? = some so → so.bar = true → LateOk sos (befs ops.toList []) j so)
    (h : aops C true sos 0 st = some stE) (hr : RelA w X μ a st st.nxt) {w0 : World} {X0 : Nat → Prop} {μ0 : Mu} (h0 : ∀ id, μ0 id ≠ none → id < st.k) (hf : Fr w0 X0 μ0 w X μ) (hk : ∀ a' w' X' μ', RelA w' X' μ' a' stE (stE.nxt + 64 * sos.length) → stE.nxt = st.nxt → stE.k = st.k → Fr w0 X0 μ0 w' X' μ' → Q .normal a' w') :
    wpAny P .any ops Q ops.size (Array.replicate ops.size false) a w := by
  obtain ⟨S, hS0, hSn, hS⟩ := aops_states (nx := st.nxt) sos 0 st stE rfl h
  rw [Nat.zero_add] at hSn
  have hst : ∀ j so, sos[j]? = some so → Step C st.nxt so j (S j) (S (j + 1)) := fun j so hj => by
    have := (hS j so hj).1
    simpa using this
  have hnx : ∀ j, j ≤ sos.length → (S j).nxt = st.nxt ∧ (S j).k = st.k := by
    intro j hj
    cases j with
    | zero => rw [hS0]; exact ⟨rfl, rfl⟩
    | succ j =>
      have := hS j _ (List.getElem?_eq_getElem (show j < sos.length by omega))
      simpa using this.2
  have hgd : ∀ j, j < sos.length → (Array.replicate ops.size false).getD j true = false := by
    intro j hj; simp [← hlen, hj]
  have hr0 : RelA w X μ a (S 0) (st.nxt + 64 * 0) := by rw [hS0]; exact hr
  obtain ⟨q, hI⟩ := Inv.new (dst := fun j => (sos[j]?).bind (·.dst)) hst (listed := Array.replicate ops.size false) (p := 0) (Nat.zero_le _) (by simp [hlen]) (fun j hj => by omega) (fun j _ hj => hgd j hj) (σ' := (S 0).σ) rfl (fun t _ => rfl) hr0 (w0 := w0) (X0 := X0) (μ0 := μ0) hf
  refine inv_sound hC (dst := fun j => (sos[j]?).bind (·.dst)) (fun j so hj => by simp [hj]) hlen hcs htmp hedge hbar hst (k0 := st.k) hnx (w0 := w0) (X0 := X0) (μ0 := μ0) h0 (fun a' w' X' μ' h1 h2 => ?_) ops.size _ 0 q a w X μ hI (fun i hi hl => by rw [hgd i hi] at hl; cases hl) ?_
  · rw [hSn] at h1
    have := hnx sos.length (Nat.le_refl _)
    rw [hSn] at this
    exact hk a' w' X' μ' (by rw [this.1]; exact h1) this.1 this.2 h2
  · refine Nat.le_trans List.countP_le_length ?_
    simp [hlen]

/-! #### another order of the text -/

theorem wp_renOp {π : List Nat} {o : Oper} {w : World} {K : Act → World → Prop} {Q : Exit → Act → World → Prop} (h : (renOp π o).wp P a w K Q) : o.wp P a w K Q := by
  have e : execOp a.eval (renOp π o) = execOp a.eval o := by
    obtain ⟨dst, op, type, pos, after, guard⟩ := o
    cases op <;> rfl
  unfold Oper.wp at h ⊢
  rw [← e]
  exact h

theorem asks_renOp {π : List Nat} {o : Oper} {w : World} (h : (renOp π o).asks P a w) : o.asks P a w := by
  obtain ⟨dst, op, type, pos, after, guard⟩ := o
  exact h

theorem posOf_at : ∀ {π : List Nat} {i : Nat}, i ∈ π → π[posOf π i]? = some i
  | [], i, h => by simp at h
  | j :: r, i, h => by
    unfold posOf
    by_cases e : j = i
    · subst e; simp
    · rw [if_neg e]
      have : i ∈ r := by simpa [Ne.symm e] using h
      simpa using posOf_at this

theorem at_posOf : ∀ {π : List Nat} {k i : Nat}, π.Nodup → π[k]? = some i → posOf π i = k
  | [], k, i, _, h => by simp at h
  | j :: r, 0, i, hn, h => by
    simp at h; subst h
    simp [posOf]
  | j :: r, k + 1, i, hn, h => by
    have h' : r[k]? = some i := by simpa using h
    obtain ⟨h1, h2⟩ := List.nodup_cons.1 hn
    unfold posOf
    rw [if_neg (fun (e : j = i) => h1 (by rw [e]; exact List.mem_of_getElem? h'))]
    rw [at_posOf h2 h']

structure Perm (π : List Nat) (ops : List Oper) : Prop where
  nd : π.Nodup
  len : π.length = ops.length
  lt : ∀ i ∈ π, i < ops.length
  all : ∀ i, i < ops.length → i ∈ π
  edge : ∀ (i : Nat) (o : Oper), ops[i]? = some o → ∀ e ∈ o.after.toList, e.on < ops.length
  guard : ∀ (i : Nat) (o : Oper), ops[i]? = some o → ∀ g, o.guard = some g → g.1 < ops.length

theorem permOk_spec {π : List Nat} {ops : List Oper} (h : permOk π ops = true) : Perm π ops := by
  unfold permOk at h
  simp only [Bool.and_eq_true, decide_eq_true_eq, beq_iff_eq, List.all_eq_true] at h
  obtain ⟨h1, h2, ⟨h3, h5⟩, h4⟩ := h
  refine ⟨h1, h2, h3, fun i hi => by simpa using h5 i (List.mem_range.2 hi), fun i o ho e he => (h4 o (List.mem_of_getElem? ho)).1 e he, fun i o ho g hg => ?_⟩
  have := (h4 o (List.mem_of_getElem? ho)).2
  rw [hg] at this
  simpa using this

theorem permOps_at {π : List Nat} {ops : List Oper} (h : ∀ i ∈ π, i < ops.length) : ∀ (ρ : List Nat) (k : Nat), (∀ i ∈ ρ, i < ops.length) → (ρ.filterMap fun i => (ops[i]?).map (renOp π))[k]? = (ρ[k]?).bind fun i => (ops[i]?).map (renOp π)
  | [], k, _ => by simp
  | i :: ρ, k, hr => by
    have hi := hr i (by simp)
    rw [List.filterMap_cons, List.getElem?_eq_getElem hi]
    simp only [Option.map_some]
    cases k with
    | zero => simp [List.getElem?_eq_getElem hi]
    | succ k => simpa using permOps_at h ρ k fun i hi => hr i (by simp [hi])

theorem perm_any {π : List Nat} {ops : List Oper} (hp : Perm π ops) {Q : Exit → Act → World → Prop} : ∀ (fuel : Nat) (l l' : Array Bool) (a : Act) (w : World), l.size = ops.length → l'.size = ops.length → (∀ i, i < ops.length → l'.getD (posOf π i) true = l.getD i true) →
    wpAny P .any (permOps π ops).toArray Q fuel l' a w → wpAny P .any ops.toArray Q fuel l a w := by
  have hplen : (permOps π ops).length = ops.length := by
    have : ∀ ρ : List Nat, (∀ i ∈ ρ, i < ops.length) → (ρ.filterMap fun i => (ops[i]?).map (renOp π)).length = ρ.length := by
      intro ρ
      induction ρ with
      | nil => intro _; rfl
      | cons i ρ ih =>
        intro h
        rw [List.filterMap_cons, List.getElem?_eq_getElem (h i (by simp))]
        simp only [Option.map_some, List.length_cons, ih fun j hj => h j (by simp [hj])]
    unfold permOps
    rw [this π hp.lt, hp.len]
  have hat : ∀ i, i < ops.length → (permOps π ops)[posOf π i]? = (ops[i]?).map (renOp π) := by
    intro i hi
    unfold permOps
    rw [permOps_at hp.lt π _ hp.lt, posOf_at (hp.all i hi)]
    rfl
  have hposlt : ∀ i, i < ops.length → posOf π i < ops.length := by
    intro i hi
    have := posOf_at (hp.all i hi)
    have := (List.getElem?_eq_some_iff.1 this).1
    rw [← hp.len]; exact this
  have hyield : ∀ (tmps : Array Value) (i : Nat), i < ops.length → yielded (permOps π ops).toArray tmps (posOf π i) = yielded ops.toArray tmps i := by
    intro tmps i hi
    unfold yielded
    simp only [List.getElem?_toArray]
    rw [hat i hi]
    cases ops[i]? with
    | none => rfl
    | some o => rfl
  have hwant : ∀ (tmps : Array Value) (i : Nat) (o : Oper), ops[i]? = some o → Region.wanted (renOp π o) (yielded (permOps π ops).toArray tmps) = Region.wanted o (yielded ops.toArray tmps) := by
    intro tmps i o ho
    unfold Region.wanted
    cases hg : o.guard with
    | none => simp [renOp, hg]
    | some g =>
      obtain ⟨j, want⟩ := g
      have : (renOp π o).guard = some (posOf π j, want) := by simp [renOp, hg]
      rw [this]
      simp only []
      rw [hyield tmps j (hp.guard i o ho _ hg)]
  have hready : ∀ (l l' : Array Bool), l.size = ops.length → l'.size = ops.length → (∀ i, i < ops.length → l'.getD (posOf π i) true = l.getD i true) → ∀ i, i ∈ Region.ready .any ops.toArray l → posOf π i ∈ Region.ready .any (permOps π ops).toArray l' := by
    intro l l' h1 h1' h2 i hi
    unfold Region.ready at hi ⊢
    rw [List.mem_filter] at hi ⊢
    obtain ⟨h3, h4⟩ := hi
    have hil : i < ops.length := by simpa using List.mem_range.1 h3
    refine ⟨List.mem_range.2 (by simp [hplen, hposlt i hil]), ?_⟩
    simp only [List.getElem?_toArray] at h4 ⊢
    rw [hat i hil, h2 i hil]
    rw [List.getElem?_eq_getElem hil] at h4 ⊢
    simp only [Option.map_some, Option.getD_some, Bool.and_eq_true] at h4 ⊢
    refine ⟨h4.1, ?_⟩
    have h5 := h4.2
    rw [Array.all_eq_true_iff_forall_mem] at h5 ⊢
    intro e he
    simp only [renOp, Array.mem_map] at he
    obtain ⟨e0, he0, rfl⟩ := he
    have h6 := h5 e0 he0
    have hel := hp.edge i _ (List.getElem?_eq_getElem hil) e0 (Array.mem_toList_iff.2 he0)
    simp only [Bool.or_eq_true, Bool.not_eq_true'] at h6 ⊢
    rcases h6 with h6 | h6
    · left; exact h6
    · right
      have h7 : l.getD e0.on true = true := by
        have hlt : e0.on < l.size := by omega
        simpa [hlt] using h6
      have h8 := h2 e0.on hel
      rw [h7] at h8
      have hlt : posOf π e0.on < l'.size := by rw [h1']; exact hposlt _ hel
      simpa [hlt] using h8
  have hback : ∀ (l l' : Array Bool), l.size = ops.length → l'.size = ops.length → (∀ i, i < ops.length → l'.getD (posOf π i) true = l.getD i true) → Region.ready .any ops.toArray l = [] → Region.ready .any (permOps π ops).toArray l' = [] := by
    intro l l' h1 h1' h2 hnil
    refine Classical.byContradiction fun hne => ?_
    obtain ⟨k, hk⟩ := List.exists_mem_of_ne_nil _ hne
    have hk0 := hk
    unfold Region.ready at hk
    rw [List.mem_filter] at hk
    obtain ⟨h3, h4⟩ := hk
    have hkl : k < ops.length := by simpa [hplen] using List.mem_range.1 h3
    have hkπ : k < π.length := by rw [hp.len]; exact hkl
    obtain ⟨i0, hik⟩ : ∃ i0, π[k]? = some i0 := ⟨_, List.getElem?_eq_getElem hkπ⟩
    have hil := hp.lt _ (List.mem_of_getElem? hik)
    have hpk : posOf π i0 = k := at_posOf hp.nd hik
    have : i0 ∈ Region.ready .any ops.toArray l := by
      unfold Region.ready
      rw [List.mem_filter]
      refine ⟨List.mem_range.2 (by simpa using hil), ?_⟩
      simp only [List.getElem?_toArray] at h4 ⊢
      have h9 := hat _ hil
      rw [hpk] at h9
      rw [h9, ← hpk, h2 _ hil] at h4
      rw [List.getElem?_eq_getElem hil] at h4 ⊢
      simp only [Option.map_some, Option.getD_some, Bool.and_eq_true] at h4 ⊢
      refine ⟨h4.1, ?_⟩
      have h5 := h4.2
      rw [Array.all_eq_true_iff_forall_mem] at h5 ⊢
      intro e0 he0
      have h6 := h5 { e0 with on := posOf π e0.on } (by simp only [renOp, Array.mem_map]; exact ⟨e0, he0, rfl⟩)
      have hel := hp.edge _ _ (List.getElem?_eq_getElem hil) e0 (Array.mem_toList_iff.2 he0)
      simp only [Bool.or_eq_true, Bool.not_eq_true'] at h6 ⊢
      rcases h6 with h6 | h6
      · left; exact h6
      · right
        have hlt : posOf π e0.on < l'.size := by rw [h1']; exact hposlt _ hel
        have h7 : l'.getD (posOf π e0.on) true = true := by simpa [hlt] using h6
        rw [h2 e0.on hel] at h7
        have hlt : e0.on < l.size := by omega
        simpa [hlt] using h7
    rw [hnil] at this
    cases this
  intro fuel
  induction fuel with
  | zero =>
    intro l l' a w h1 h1' h2 h
    refine ⟨?_, h.2⟩
    cases hr : Region.ready .any ops.toArray l with
    | nil => rfl
    | cons i r =>
      have := hready l l' h1 h1' h2 i (by rw [hr]; simp)
      rw [h.1] at this
      cases this
  | succ fuel ih =>
    intro l l' a w h1 h1' h2 h
    refine ⟨fun hnil => h.1 (hback l l' h1 h1' h2 hnil), fun i hi => ?_⟩
    have hil : i < ops.length := by
      unfold Region.ready at hi
      rw [List.mem_filter] at hi
      simpa using List.mem_range.1 hi.1
    have h3 := h.2 _ (hready l l' h1 h1' h2 i hi)
    unfold wpOp at h3 ⊢
    simp only [List.getElem?_toArray] at h3 ⊢
    rw [hat i hil] at h3
    rw [List.getElem?_eq_getElem hil] at h3 ⊢
    simp only [Option.map_some] at h3 ⊢
    rw [hwant a.tmps i _ (List.getElem?_eq_getElem hil)] at h3
    have hnext : ∀ a w, wpAny P .any (permOps π ops).toArray Q fuel (l'.setIfInBounds (posOf π i) true) a w → wpAny P .any ops.toArray Q fuel (l.setIfInBounds i true) a w := by
      intro a w
      refine ih _ _ a w (by simpa using h1) (by simpa using h1') (fun j hj => ?_)
      rw [getD_set (by rw [h1']; exact hposlt i hil), getD_set (by rw [h1]; exact hil)]
      by_cases e : j = i
      · subst e; simp
      · have : posOf π j ≠ posOf π i := by
          intro e2
          have q1 := posOf_at (hp.all j hj)
          have q2 := posOf_at (hp.all i hil)
          rw [e2, q2] at q1
          exact e (by cases q1; rfl)
        rw [if_neg this, if_neg e]
        exact h2 j hj
    split
    · rename_i hw
      rw [if_pos hw] at h3
      exact h3.imp (fun h => wp_renOp (Oper.wp_mono hnext h)) (fun h => ⟨asks_renOp h.1, h.2⟩)
    · rename_i hw
      rw [if_neg hw] at h3
      exact hnext _ _ h3

theorem perm_sound {π : List Nat} {ops : Array Oper} (h : permOk π ops.toList = true) {Q : Exit → Act → World → Prop} {a : Act} {w : World} (hw : wpAny P .any (permOps π ops.toList).toArray Q (permOps π ops.toList).toArray.size (Array.replicate (permOps π ops.toList).toArray.size false) a w) :
    wpAny P .any ops Q ops.size (Array.replicate ops.size false) a w := by
  have hp := permOk_spec h
  have hplen : (permOps π ops.toList).length = ops.size := by
    have : ∀ ρ : List Nat, (∀ i ∈ ρ, i < ops.toList.length) → (ρ.filterMap fun i => (ops.toList[i]?).map (renOp π)).length = ρ.length := by
      intro ρ
      induction ρ with
      | nil => intro _; rfl
      | cons i ρ ih =>
        intro h
        rw [List.filterMap_cons, List.getElem?_eq_getElem (h i (by simp))]
        simp only [Option.map_some, List.length_cons, ih fun j hj => h j (by simp [hj])]
    unfold permOps
    rw [this π hp.lt, hp.len]
    simp
  rw [List.size_toArray, hplen] at hw
  have := perm_any hp ops.size (Array.replicate ops.size false) (Array.replicate ops.size false) a w (by simp) (by simp) (fun i hi => by
    have hi' : i < ops.size := by simpa using hi
    have h1 := posOf_at (hp.all i hi)
    have h2 := (List.getElem?_eq_some_iff.1 h1).1
    have h3 : posOf π i < ops.size := by rw [hp.len] at h2; simpa using h2
    simp [hi', h3]) hw
  simpa using this

end Go.Proofs.Ytjpccbjgmogclaa.Lift
