/- A reading of the program's code by values alone: whole functions. What is read of a call is what the call does. -/
import Derived.Test.YtjpccbjgmogclaaLiftN
import Derived.Scope
set_option linter.all false
set_option linter.unusedSimpArgs false
namespace Go.Proofs.Ytjpccbjgmogclaa.Lift
open Go Go.RowKit

variable {P : Program} {w : World} {X : Nat → Prop} {μ : Mu} {a : Act}

def AEx.out : AEx → Exit
  | .normal => .normal
  | .exit id => .exit id
  | .ret => .ret

/-- What is shown of code. -/
def Post (w0 : World) (X0 : Nat → Prop) (μ0 : Mu) (k : Nat) (ex : AEx) (st' : ASt) : Exit → Act → World → Prop :=
  fun e a' w' => e = ex.out ∧ ∃ X' μ', RelA w' X' μ' a' st' st'.nxt ∧ Fr w0 X0 μ0 w' X' μ' ∧ st'.k = k

def LSound (P : Program) (L : LT) : Prop := ∀ (w0 : World) (X0 : Nat → Prop) (μ0 : Mu) (k : Nat), (∀ id, μ0 id ≠ none → id < k) → ∀ (gr : List Nat) (ann : List (List Nat)) (c : Code) (n : Nat) (s : SCode) (n' : Nat), ccode P gr ann c n = some (s, n') →
  ∀ lv st ex st', L lv s st = some (ex, st') → ∀ a w X μ, RelA w X μ a st st.nxt → Fr w0 X0 μ0 w X μ → st.k = k → ∀ (b : Frame) (q : List Item) (cs : List Frame),
    ∃ e a' w', Post w0 X0 μ0 k ex st' e a' w' ∧ Arrives P (lone (b.at a (.code c :: .inLoop c :: q)) cs w) b q cs e a' w'

theorem cregion_spec {gr : List Nat} {ops : Array Oper} {draw : Bool} {s : SCode} (h : cregion0 P gr ops.toList draw = some s) : ∃ sos : List SOper, s = .region sos draw ∧ sos.length = ops.size ∧ (∀ (j : Nat) (so : SOper), sos[j]? = some so → ∃ o : Oper, ops[j]? = some o ∧ Comp1 P gr ops o so) ∧
    (draw = true → tmpsOk sos (befs ops.toList []) = true ∧ edgesOk ops.toList = true ∧ ∀ (j : Nat) (so : SOper), sos[j]? = some so → so.bar = true → LateOk sos (befs ops.toList []) j so) := by
  unfold cregion0 at h
  split at h
  · rename_i sos hm
    split at h
    · cases h
    rename_i hcond
    cases h
    obtain ⟨hl, hat⟩ := mapM_at hm
    have hone : ∀ (j : Nat) (so : SOper), sos[j]? = some so → ∃ o : Oper, ops[j]? = some o ∧ Comp1 P gr ops o so ∧ so.bar = false := by
      intro j so hj
      obtain ⟨p, hp, hf⟩ := hat j so hj
      rw [List.getElem?_zipIdx] at hp
      obtain ⟨o, ho, rfl⟩ := Option.map_eq_some_iff.1 hp
      unfold coper at hf
      split at hf
      · rename_i s g hs hg
        cases hf
        refine ⟨o, by simpa using ho, ⟨hs, rfl, ?_⟩, rfl⟩
        simp only [] at hg
        unfold cguard at hg
        split at hg
        · rename_i e
          rw [e]; cases hg; rfl
        · rename_i j' want e
          rw [e]
          split at hg
          · rename_i t ht
            cases hg
            exact ⟨t, by simpa using ht, rfl⟩
          · cases hg
      · cases hf
    have hadd : ∀ (j : Nat) (so : SOper), (addLate sos (befs ops.toList []) draw)[j]? = some so → ∃ so0, sos[j]? = some so0 ∧ so.dst = so0.dst ∧ so.op = so0.op ∧ so.guard = so0.guard ∧ (so.bar = true → draw = true ∧ isBar (befs ops.toList []) sos.length j = true ∧ so.late = lateOf sos (befs ops.toList []) j ∧ (lateOf sos (befs ops.toList []) j).all (lateStatic sos) = true) := by
      intro j so hj
      unfold addLate at hj
      rw [List.getElem?_map, List.getElem?_zipIdx] at hj
      obtain ⟨p, hp, rfl⟩ := Option.map_eq_some_iff.1 hj
      obtain ⟨so0, hso0, rfl⟩ := Option.map_eq_some_iff.1 hp
      refine ⟨so0, by simpa using hso0, ?_⟩
      simp only [Nat.zero_add]
      split
      · rename_i hc
        simp only [Bool.and_eq_true] at hc
        exact ⟨rfl, rfl, rfl, fun _ => ⟨hc.1, hc.2.2.1, rfl, hc.2.2.2⟩⟩
      · obtain ⟨_, _, _, hb⟩ := hone j so0 (by simpa using hso0)
        exact ⟨rfl, rfl, rfl, fun h => by rw [hb] at h; cases h⟩
    have hlen2 : (addLate sos (befs ops.toList []) draw).length = sos.length := by simp [addLate]
    refine ⟨_, rfl, by rw [hlen2, ← hl]; simp, fun j so hj => ?_, fun hd => ?_⟩
    · obtain ⟨so0, h1, h2, h3, h4, _⟩ := hadd j so hj
      obtain ⟨o, k1, k2, _⟩ := hone j so0 h1
      exact ⟨o, k1, ⟨by rw [h3]; exact k2.op, by rw [h2]; exact k2.dst, by rw [h4]; exact k2.guard⟩⟩
    subst hd
    simp only [true_and, not_or, Bool.not_eq_false] at hcond
    have hsame : ∀ (j : Nat) (so0 : SOper), sos[j]? = some so0 → ∃ so, (addLate sos (befs ops.toList []) true)[j]? = some so ∧ so.dst = so0.dst ∧ so.op = so0.op ∧ so.guard = so0.guard := by
      intro j so0 hj
      have hlt : j < (addLate sos (befs ops.toList []) true).length := by rw [hlen2]; exact (List.getElem?_eq_some_iff.1 hj).1
      obtain ⟨s1, h1, h2, h3, h4, _⟩ := hadd j _ (List.getElem?_eq_getElem hlt)
      rw [hj] at h1; cases h1
      exact ⟨_, List.getElem?_eq_getElem hlt, h2, h3, h4⟩
    refine ⟨?_, hcond.2, fun j so hj hb => ?_⟩
    · have h0 := hcond.1
      unfold tmpsOk at h0 ⊢
      rw [hlen2]
      rw [List.all_eq_true] at h0 ⊢
      intro j hj
      have h1 := h0 j hj
      have hjl := List.mem_range.1 hj
      obtain ⟨sj, e1, e2, e3, e4⟩ := hsame j _ (List.getElem?_eq_getElem hjl)
      rw [List.getElem?_eq_getElem hjl] at h1
      rw [e1]
      simp only [] at h1 ⊢
      rw [e2]
      split
      · rfl
      · rename_i d hd
        rw [hd] at h1
        simp only [] at h1
        rw [List.all_eq_true] at h1 ⊢
        intro i hi
        have h2 := h1 i hi
        have hil := List.mem_range.1 hi
        obtain ⟨si, f1, f2, f3, f4⟩ := hsame i _ (List.getElem?_eq_getElem hil)
        rw [List.getElem?_eq_getElem hil] at h2
        rw [f1]
        simp only [] at h2 ⊢
        have hlk : looks si = looks sos[i] := by unfold looks; rw [f3, f4]
        rw [hlk, f2]
        exact h2
    · obtain ⟨so0, h1, h2, h3, h4, h5⟩ := hadd j so hj
      obtain ⟨_, hbar, hlate, hst⟩ := h5 hb
      refine ⟨by rw [hlen2]; exact isBar_spec hbar, fun i si hij hsi => ?_⟩
      by_cases hbit : ((befs ops.toList []).getD j 0).testBit i = true
      · exact .inl hbit
      · right
        obtain ⟨si0, k1, k2, k3, k4, _⟩ := hadd i si hsi
        have hmem : (⟨i, si.dst, si.op, si.guard⟩ : SLate) ∈ lateOf sos (befs ops.toList []) j := by
          unfold lateOf
          rw [List.mem_map]
          refine ⟨(si0, i), ?_, by rw [k2, k3, k4]⟩
          rw [List.mem_filter]
          exact ⟨List.mem_zipIdx_iff_getElem?.2 k1, by simp [hij]; simpa using hbit⟩
        refine ⟨by rw [hlate]; exact hmem, fun w sw d hiw hsw hdw => ?_⟩
        obtain ⟨sw0, m1, m2, _⟩ := hadd w sw hsw
        rw [List.all_eq_true] at hst
        have h6 := hst _ hmem
        unfold lateStatic at h6
        rw [List.all_eq_true] at h6
        have h7 := h6 (sw0, w) (List.mem_zipIdx_iff_getElem?.2 m1)
        rw [← m2, hdw] at h7
        have hle : ¬ w < i := by omega
        simp only [hle, decide_false, Bool.false_or, Bool.and_eq_true, Bool.or_eq_true, beq_iff_eq, Bool.not_eq_true', beq_eq_false_iff_ne, List.contains_eq_mem, decide_eq_false_iff_not] at h7
        exact ⟨h7.1, fun hne => h7.2.resolve_left (by omega)⟩
  · cases h

set_option maxHeartbeats 1000000 in
theorem code_sound {C : FT} {L : LT} (hC : CSound P C) (hL : LSound P L) (hmix : P.follows .mixedOrders = true) {w0 : World} {X0 : Nat → Prop} {μ0 : Mu} {k : Nat} (h0 : ∀ id, μ0 id ≠ none → id < k) {gr : List Nat} {ann : List (List Nat)} :
    ∀ (c : Code) (n : Nat) (s : SCode) (n' : Nat), ccode P gr ann c n = some (s, n') → ∀ st ex st', acode C L s st = some (ex, st') → ∀ a w X μ, RelA w X μ a st st.nxt → Fr w0 X0 μ0 w X μ → st.k = k → c.wp P (Post w0 X0 μ0 k ex st') a w := by
  intro c
  induction c with
  | skip =>
    intro n s n' h st ex st' hc a w X μ hr hf hk
    simp only [ccode, Option.some.injEq, Prod.mk.injEq] at h
    obtain ⟨rfl, rfl⟩ := h
    simp only [acode, Option.some.injEq, Prod.mk.injEq] at hc
    obtain ⟨rfl, rfl⟩ := hc
    exact wp_skip ⟨rfl, X, μ, hr, hf, hk⟩
  | region id ops draw =>
    intro n s n' h st ex st' hc a w X μ hr hf hk
    simp only [ccode] at h
    obtain ⟨s', hs', e⟩ := Option.map_eq_some_iff.1 h
    cases e
    unfold cregion at hs'
    have main : ∀ (opl : List Oper) (d : Bool), cregion0 P gr opl d = some s → (d = true → wpAny P .any opl.toArray (Post w0 X0 μ0 k ex st') opl.toArray.size (Array.replicate opl.toArray.size false) a w.drew → (Code.region id ops draw).wp P (Post w0 X0 μ0 k ex st') a w) → (d = false → wpOps P opl.toArray (Post w0 X0 μ0 k ex st') (List.range opl.toArray.size) a w → (Code.region id ops draw).wp P (Post w0 X0 μ0 k ex st') a w) → (Code.region id ops draw).wp P (Post w0 X0 μ0 k ex st') a w := by
      intro opl d hs' hdraw hseq
      obtain ⟨sos, rfl, hlen, hcs, hd⟩ := cregion_spec (ops := opl.toArray) hs'
      simp only [acode] at hc
      split at hc
      · rename_i stE hE
        cases hc
        have fin : ∀ a' w' X' μ', RelA w' X' μ' a' stE (stE.nxt + 64 * sos.length) → stE.nxt = st.nxt → stE.k = st.k → Fr w0 X0 μ0 w' X' μ' → Post w0 X0 μ0 k .normal { stE with nxt := stE.nxt + 64 * sos.length } .normal a' w' := by
          intro a' w' X' μ' h1 h2 h3 h4
          exact ⟨rfl, X', μ', ⟨h1.σ, h1.H, h1.hb, h1.mb, h1.d⟩, h4, h3.trans hk⟩
        cases d with
        | false =>
          refine hseq rfl ?_
          rw [← hlen, List.range_eq_range']
          exact ops_seq (gr := gr) hC sos 0 (fun j so hj => by simpa using hcs j so hj) hE (by simpa using hr) (fun a' w' X' μ' h1 h2 h3 h4 => fin a' w' X' μ' (by simpa using h1) h2 h3 (h4 w0 X0 μ0 (by rw [hk]; exact h0) hf))
        | true =>
          obtain ⟨d1, d2, d3⟩ := hd rfl
          have hdr : RelA w.drew X μ a st st.nxt := by
            have := hr.calm (adds := []) Ext.drew .same (by simp)
            exact ⟨this.σ, this.H, hr.hb, hr.mb, hr.d⟩
          exact hdraw rfl (ops_draw (gr := gr) hC hlen hcs d1 d2 d3 hE hdr (w0 := w0) (X0 := X0) (μ0 := μ0) (by rw [hk]; exact h0) (hf.ext Ext.drew) fin)
      · cases hc
    split at hs'
    · rename_i hdt
      subst hdt
      split at hs'
      · rename_i π hπ
        refine main _ true hs' (fun _ h => ?_) (fun h => by cases h)
        have hok : permOk π ops.toList = true := by
          unfold reorder at hπ
          simp only [] at hπ
          split at hπ
          · cases hπ
          · split at hπ
            · rename_i hp; cases hπ; exact hp
            · cases hπ
        exact wp_region_any hmix (perm_sound hok h)
      · exact main _ true hs' (fun _ h => wp_region_any hmix (by rw [Array.toArray_toList] at h; exact h)) (fun h => by cases h)
    · rename_i hdf
      have : draw = false := by simpa using hdf
      subst this
      exact main _ false hs' (fun h => by cases h) (fun _ h => wp_region (by rw [Array.toArray_toList] at h; exact h))
  | seq x y ihx ihy =>
    intro n s n' h st ex st' hc a w X μ hr hf hk
    simp only [ccode] at h
    split at h
    · rename_i sx nx hx
      obtain ⟨⟨sy, ny⟩, hy, e⟩ := Option.map_eq_some_iff.1 h
      cases e
      simp only [acode] at hc
      split at hc
      · rename_i st1 h1
        refine wp_seq (wp_mono (ihx n sx nx hx st .normal st1 h1 a w X μ hr hf hk) fun e a' w' ⟨he, X', μ', k1, k2, k3⟩ => ?_)
        subst he
        exact ihy nx sy ny hy st1 ex st' hc a' w' X' μ' k1 k2 k3
      · rename_i r hne
        refine wp_seq (wp_mono (ihx n sx nx hx st ex st' hc a w X μ hr hf hk) fun e a' w' ⟨he, X', μ', k1, k2, k3⟩ => ?_)
        subst he
        cases ex with
        | normal => exact absurd hc (by intro e; exact hne _ e)
        | exit id => exact ⟨rfl, X', μ', k1, k2, k3⟩
        | ret => exact ⟨rfl, X', μ', k1, k2, k3⟩
    · cases h
  | cond c x y ihx ihy =>
    intro n s n' h st ex st' hc a w X μ hr hf hk
    simp only [ccode] at h
    split at h
    · rename_i c' sx nx hc' hx
      obtain ⟨⟨sy, ny⟩, hy, e⟩ := Option.map_eq_some_iff.1 h
      cases e
      simp only [acode] at hc
      split at hc
      · rename_i t ht
        have hb := rep_bool (hr.σ.ev hc') ht
        split at hc
        · rename_i ht1
          subst ht1
          exact wp_cond_true hb (ihx n sx nx hx st ex st' hc a w X μ hr hf hk)
        · rename_i ht1
          have : t = false := by simpa using ht1
          subst this
          exact wp_cond_false hb (ihy nx sy ny hy st ex st' hc a w X μ hr hf hk)
      · cases hc
    · cases h
  | block id x ih =>
    intro n s n' h st ex st' hc a w X μ hr hf hk
    simp only [ccode] at h
    obtain ⟨⟨sx, nx⟩, hx, e⟩ := Option.map_eq_some_iff.1 h
    cases e
    simp only [acode] at hc
    split at hc
    · rename_i j st1 h1
      refine wp_block (wp_mono (ih n sx nx hx st (.exit j) st1 h1 a w X μ hr hf hk) fun e a' w' ⟨he, X', μ', k1, k2, k3⟩ => ?_)
      subst he
      simp only [AEx.out, Exit.inBlock]
      split at hc
      · rename_i hj
        cases hc
        rw [if_pos hj]
        exact ⟨rfl, X', μ', k1, k2, k3⟩
      · rename_i hj
        cases hc
        rw [if_neg hj]
        exact ⟨rfl, X', μ', k1, k2, k3⟩
    · rename_i r hne
      refine wp_block (wp_mono (ih n sx nx hx st ex st' hc a w X μ hr hf hk) fun e a' w' ⟨he, X', μ', k1, k2, k3⟩ => ?_)
      subst he
      cases ex with
      | normal => exact ⟨rfl, X', μ', k1, k2, k3⟩
      | exit j => exact absurd hc (by intro e; exact hne _ _ e)
      | ret => exact ⟨rfl, X', μ', k1, k2, k3⟩
  | loop x ih =>
    intro n s n' h st ex st' hc a w X μ hr hf hk
    simp only [ccode] at h
    obtain ⟨⟨sx, nx⟩, hx, e⟩ := Option.map_eq_some_iff.1 h
    cases e
    simp only [acode] at hc
    intro b q cs
    obtain ⟨e, a', w', h1, h2⟩ := hL w0 X0 μ0 k h0 gr ann x (n + 1) sx nx hx _ st ex st' hc a w X μ hr hf hk b q cs
    exact ⟨e, a', w', h1, .of_steps (.one step_loop) h2⟩
  | rangeFunc f ps x y ihx ihy => intro n s n' h; simp [ccode] at h
  | exit id =>
    intro n s n' h st ex st' hc a w X μ hr hf hk
    simp only [ccode, Option.some.injEq, Prod.mk.injEq] at h
    obtain ⟨rfl, rfl⟩ := h
    simp only [acode, Option.some.injEq, Prod.mk.injEq] at hc
    obtain ⟨rfl, rfl⟩ := hc
    exact wp_exit ⟨rfl, X, μ, hr, hf, hk⟩
  | scope x ih =>
    intro n s n' h st ex st' hc a w X μ hr hf hk
    simp only [ccode] at h
    refine wp_scope_straight (wp_mono (ih n s n' h st ex st' hc a w X μ hr hf hk) fun e a' w' ⟨he, X', μ', k1, k2, k3⟩ => ?_)
    subst he
    cases ex with
    | normal => exact ⟨rfl, X', μ', k1, k2, k3⟩
    | exit id => exact ⟨rfl, X', μ', k1, k2, k3⟩
    | ret => exact ⟨rfl, X', μ', k1, k2, k3⟩
  | label l =>
    intro n s n' h st ex st' hc a w X μ hr hf hk
    simp only [ccode, Option.some.injEq, Prod.mk.injEq] at h
    obtain ⟨rfl, rfl⟩ := h
    simp only [acode, Option.some.injEq, Prod.mk.injEq] at hc
    obtain ⟨rfl, rfl⟩ := hc
    exact wp_label ⟨rfl, X, μ, hr, hf, hk⟩
  | goto l => intro n s n' h; simp [ccode] at h
  | ret =>
    intro n s n' h st ex st' hc a w X μ hr hf hk
    simp only [ccode, Option.some.injEq, Prod.mk.injEq] at h
    obtain ⟨rfl, rfl⟩ := h
    simp only [acode, Option.some.injEq, Prod.mk.injEq] at hc
    obtain ⟨rfl, rfl⟩ := hc
    exact wp_ret ⟨rfl, X, μ, hr, hf, hk⟩
  | refuse q => intro n s n' h; simp [ccode] at h

theorem relist_lk (H : Heap) (f : Nat → Option Nat) (k : Nat) : ∀ (L : List Nat) (n j : Nat), lk (relist H f k n L) j = if n ≤ j then (L[j - n]?).bind fun i => (lk H i).map (fun o => fresh k j (o.ren f)) else none
  | [], n, j => by simp [relist, lk]
  | i :: L, n, j => by
    have ih := relist_lk H f k L (n + 1) j
    simp only [relist]
    by_cases hj : n = j
    · subst hj
      simp only [Nat.le_refl, if_true, Nat.sub_self, List.getElem?_cons_zero, Option.bind_some]
      cases hl : lk H i with
      | none => simp only [Option.map_none]; rw [ih, if_neg (by omega)]
      | some o => simp [lk]
    · have e : (if n ≤ j then ((i :: L)[j - n]?).bind fun i => (lk H i).map (fun o => fresh k j (o.ren f)) else none) = if n + 1 ≤ j then (L[j - (n + 1)]?).bind fun i => (lk H i).map (fun o => fresh k j (o.ren f)) else none := by
        by_cases h1 : n + 1 ≤ j
        · rw [if_pos h1, if_pos (by omega), show j - n = (j - (n + 1)) + 1 by omega]; rfl
        · rw [if_neg h1, if_neg (by omega)]
      rw [e, ← ih]
      cases hl : lk H i with
      | none => rfl
      | some o => simp only [lk, if_neg hj]

theorem living_at (lv : List Nat) : ∀ (σ : List AV) (n j : Nat) (x : AV), (living lv n σ)[j]? = some x → ∃ y, σ[j]? = some y ∧ (x = y ∨ x = .top)
  | [], n, j, x, h => by simp [living] at h
  | y :: σ, n, 0, x, h => by
    simp only [living, List.getElem?_cons_zero, Option.some.injEq] at h
    refine ⟨y, rfl, ?_⟩
    rw [← h]; split
    · exact .inl rfl
    · exact .inr rfl
  | y :: σ, n, j + 1, x, h => by
    simp only [living, List.getElem?_cons_succ] at h
    simpa using living_at lv σ (n + 1) j x h

theorem living_len (lv : List Nat) : ∀ (σ : List AV) (n : Nat), (living lv n σ).length = σ.length
  | [], _ => rfl
  | y :: σ, n => by simp [living, living_len lv σ (n + 1)]

theorem take_range {L : List Nat} {k : Nat} (h : L.take k = List.range k) {id : Nat} (hid : id < k) : L[id]? = some id := by
  have : (L.take k)[id]? = some id := by rw [h, List.getElem?_range hid]
  rw [List.getElem?_take, if_pos hid] at this
  exact this

/-- The objects' places, under other numbers; those that did not come with the call without their history. -/
def youngM (k : Nat) (L : List Nat) (μ : Mu) : Mu := fun j => (subM L μ j).map fun m => if j < k then m else { m with ver := 0 }

theorem young_spec {k : Nat} {L : List Nat} {j : Nat} {m : MI} (h : youngM k L μ j = some m) : ∃ id m0, L[j]? = some id ∧ μ id = some m0 ∧ m = (if j < k then m0 else { m0 with ver := 0 }) ∧ m.b = m0.b := by
  unfold youngM at h
  obtain ⟨m0, h1, rfl⟩ := Option.map_eq_some_iff.1 h
  obtain ⟨id, h2, h3⟩ := Option.bind_eq_some_iff.1 h1
  exact ⟨id, m0, h2, h3, rfl, by split <;> rfl⟩

/-- Values do not look at an object's history. -/
theorem Rep.young {a : AV} {v : Value} (h : Rep w X μ a v) : ∀ {μ' : Mu} {f : Nat → Option Nat}, (∀ i j m, f i = some j → μ i = some m → ∃ n, μ' j = some { m with ver := n }) → Rep w X μ' (a.ren f) v := by
  induction h with
  | top v => intros; simp only [AV.ren, renL_eq]; exact .top v
  | bool b => intros; simp only [AV.ren, renL_eq]; exact .bool b
  | int k n => intros; simp only [AV.ren, renL_eq]; exact .int k n
  | str s => intros; simp only [AV.ren, renL_eq]; exact .str s
  | agg hl h ih =>
    intro μ' f hf; simp only [AV.ren, renL_eq]
    refine .agg (by simpa using hl) fun j c v hc hv => ?_
    rw [List.getElem?_map] at hc
    obtain ⟨c0, hc0, rfl⟩ := Option.map_eq_some_iff.1 hc
    exact ih j c0 v hc0 hv hf
  | tup hl h ih =>
    intro μ' f hf; simp only [AV.ren, renL_eq]
    refine .tup (by simpa using hl) fun j c v hc hv => ?_
    rw [List.getElem?_map] at hc
    obtain ⟨c0, hc0, rfl⟩ := Option.map_eq_some_iff.1 hc
    exact ih j c0 v hc0 hv hf
  | nilP => intros; simp only [AV.ren, renL_eq]; exact .nilP
  | nilS => intros; simp only [AV.ren, renL_eq]; exact .nilS
  | emp => intros; simp only [AV.ren, renL_eq]; exact .emp
  | nilF => intros; simp only [AV.ren, renL_eq]; exact .nilF
  | nilI => intros; simp only [AV.ren, renL_eq]; exact .nilI
  | @ref μ id m h i o =>
    intro μ' f hf; simp only [AV.ren, renL_eq]
    cases hj : f id with
    | none => exact .top _
    | some j =>
      obtain ⟨n, hn⟩ := hf _ _ _ hj h
      exact Rep.ref (m := { m with ver := n }) hn i o
  | rref vs hX hlt hv ho hr ih => intros; simp only [AV.ren, renL_eq]; exact .rref vs hX hlt hv ho hr
  | roE h => intros; simp only [AV.ren, renL_eq]; exact .roE h
  | ro vs hn hX hlt hc hf hz hv ho hr ih => intros; simp only [AV.ren, renL_eq]; exact .ro vs hn hX hlt hc hf hz hv ho hr
  | @own μ id m lo len off cap h hb hn hc ho =>
    intro μ' f hf; simp only [AV.ren, renL_eq]
    cases hj : f id with
    | none => exact .top _
    | some j =>
      obtain ⟨n, hq⟩ := hf _ _ _ hj h
      exact Rep.own (m := { m with ver := n }) hq hb hn hc ho
  | @own0 μ id lo A =>
    intro μ' f hf; simp only [AV.ren, renL_eq]
    cases hj : f id with
    | none => exact .top _
    | some j => exact .own0
  | @rl μ id lo off cap m h hb hn hc ho =>
    intro μ' f hf; simp only [AV.ren, renL_eq]
    cases hj : f id with
    | none => exact .top _
    | some j =>
      obtain ⟨n, hq⟩ := hf _ _ _ hj h
      exact Rep.rl (m := { m with ver := n }) hq hb hn hc ho
  | fn hl hm h h' ih ih' =>
    intro μ' f hf; simp only [AV.ren, renL_eq]
    refine .fn (by simpa using hl) (by simpa using hm) (fun j c v hc hv => ?_) (fun j c v hc hv => ?_)
    · rw [List.getElem?_map] at hc
      obtain ⟨c0, hc0, rfl⟩ := Option.map_eq_some_iff.1 hc
      exact ih j c0 v hc0 hv hf
    · rw [List.getElem?_map] at hc
      obtain ⟨c0, hc0, rfl⟩ := Option.map_eq_some_iff.1 hc
      exact ih' j c0 v hc0 hv hf
  | ifc h ih => intro μ' f hf; simp only [AV.ren, renL_eq]; exact .ifc (ih hf)

/-- Other numbers for the objects. -/
theorem renumber {w0 : World} {X0 : Nat → Prop} {μ0 : Mu} {k : Nat} (h0 : ∀ id, μ0 id ≠ none → id < k) {st : ASt} {B : Nat} (hr : RelA w X μ a st B) (hf : Fr w0 X0 μ0 w X μ) {L : List Nat} (hn : L.Nodup) (hp : L.take k = List.range k) :
    Holds w X (youngM k L μ) (relist st.H (pos L) k 0 L) ∧ (∀ j, youngM k L μ j ≠ none → j < L.length) ∧ Fr w0 X0 μ0 w X (youngM k L μ) ∧ (∀ {x : AV} {u : Value}, Rep w X μ x u → Rep w X (youngM k L μ) (x.ren (pos L)) u) := by
  have hmu : ∀ i j m, pos L i = some j → μ i = some m → ∃ n, youngM k L μ j = some { m with ver := n } := by
    intro i j m h1 h2
    unfold youngM subM
    rw [pos_spec h1]
    simp only [Option.bind_some, h2, Option.map_some]
    by_cases hj : j < k
    · rw [if_pos hj]; exact ⟨m.ver, rfl⟩
    · rw [if_neg hj]; exact ⟨0, rfl⟩
  have hkeep : ∀ {x : AV} {u : Value}, Rep w X μ x u → Rep w X (youngM k L μ) (x.ren (pos L)) u := fun h => h.young hmu
  refine ⟨⟨fun j m h => ?_, fun j m h => ?_, fun i j mi mj h1 h2 e => ?_, hr.H.lt⟩, fun j h => ?_, ⟨hf.os, hf.tape, hf.output, hf.size, hf.heap, hf.x1, hf.x2, fun id m h => ?_, fun j m h => ?_⟩, hkeep⟩
  · obtain ⟨id, m0, _, h2, _, h3⟩ := young_spec h; rw [h3]; exact hr.H.x id m0 h2
  · obtain ⟨id, m0, h1, h2, h3, h4⟩ := young_spec h
    obtain ⟨ob, hl, hob⟩ := hr.H.h id m0 h2
    have hob' : HObj w X (youngM k L μ) (ob.ren (pos L)) m0 := hob.re (g := fun c => c.ren (pos L)) (fun y u hy => hkeep hy) rfl
    refine ⟨fresh k j (ob.ren (pos L)), by rw [relist_lk, if_pos (Nat.zero_le _), Nat.sub_zero, h1]; simp [hl], ?_⟩
    subst h3
    unfold fresh
    split
    · exact hob'
    · exact hob'.young
  · obtain ⟨i1, m1, a1, a2, _, a3⟩ := young_spec h1
    obtain ⟨i2, m2, b1, b2, _, b3⟩ := young_spec h2
    have := hr.H.inj _ _ _ _ a2 b2 (a3.symm.trans (e.trans b3))
    subst this
    have q1 := pos_of hn a1
    have q2 := pos_of hn b1
    rw [q1] at q2; cases q2; rfl
  · obtain ⟨m, hm⟩ := Option.ne_none_iff_exists'.1 h
    obtain ⟨id, _, h1, _⟩ := young_spec hm
    exact (List.getElem?_eq_some_iff.1 h1).1
  · obtain ⟨m', h1, h2⟩ := hf.pin id m h
    have hid := h0 id (by rw [h]; simp)
    refine ⟨m', ?_, h2⟩
    unfold youngM subM
    rw [take_range hp hid]
    simp only [Option.bind_some, h1, Option.map_some, if_pos hid]
  · obtain ⟨id, m0, h1, h2, _, h3⟩ := young_spec h
    rw [h3]
    refine (hf.new id m0 h2).imp (fun h => h) (fun ⟨m1, q1, q2⟩ => ?_)
    have hid := h0 id (by rw [q1]; simp)
    have h4 := pos_of hn (take_range hp hid)
    rw [pos_of hn h1] at h4
    cases h4
    exact ⟨m1, q1, q2⟩

theorem canon_sound {w0 : World} {X0 : Nat → Prop} {μ0 : Mu} {k : Nat} (h0 : ∀ id, μ0 id ≠ none → id < k) {st : ASt} (hr : RelA w X μ a st st.nxt) (hf : Fr w0 X0 μ0 w X μ) (hk : st.k = k) (lv : List Nat) :
    ∃ μ', RelA w X μ' a (canon lv st) (canon lv st).nxt ∧ Fr w0 X0 μ0 w X μ' ∧ (canon lv st).k = k := by
  unfold canon
  simp only []
  split
  · rename_i hc
    rw [hk] at hc ⊢
    obtain ⟨h1, h2, h3, h4⟩ := renumber h0 hr hf hc.1 hc.2
    refine ⟨_, ⟨⟨by simp [living_len, hr.σ.size], fun t x ht => ?_⟩, h1, fun j ob hj => ?_, h2, hr.d⟩, h3, rfl⟩
    · rw [List.getElem?_map] at ht
      obtain ⟨y, hy, rfl⟩ := Option.map_eq_some_iff.1 ht
      obtain ⟨z, hz, hzz⟩ := living_at lv _ _ _ _ hy
      obtain ⟨v, hv, hrv⟩ := hr.σ.v t z hz
      refine ⟨v, hv, ?_⟩
      rcases hzz with rfl | rfl
      · exact h4 hrv
      · simp only [AV.ren, renL_eq]; exact .top _
    · rw [relist_lk, if_pos (Nat.zero_le _), Nat.sub_zero] at hj
      obtain ⟨id, h5, _⟩ := Option.bind_eq_some_iff.1 hj
      exact (List.getElem?_eq_some_iff.1 h5).1
  · exact ⟨μ, hr, hf, hk⟩

theorem res_sound (f : ResultVar → Sem Value) {a : Act} (hf1 : ∀ t, f (.tmp t) = pure (a.tmps.getD t undef)) (hf2 : ∀ x t, f (.cell x t) = (do loadVar t (← asAddr (a.tmps.getD x undef)))) {st : ASt} {B : Nat} (hr : RelA w X μ a st B) {rv : ResultVar} {sr : SRes} (hc : cres P rv = some sr) {v : AV} (hv : rval st sr = some v) :
    ∃ u, (f rv).run P w = .ok u w ∧ Rep w X μ v u := by
  have hval : ∀ t, Rep w X μ (st.σ.getD t .top) (a.tmps.getD t undef) := by
    intro t
    rw [List.getD_eq_getElem?_getD]
    cases ht : st.σ[t]? with
    | none => exact .top _
    | some x =>
      obtain ⟨v, hv, hrv⟩ := hr.σ.v t x ht
      simpa [hv] using hrv
  cases rv with
  | tmp t =>
    cases hc
    cases hv
    exact ⟨_, by rw [hf1]; rfl, hval t⟩
  | cell x t =>
    simp only [cres] at hc
    split at hc
    · rename_i agg n ht hn
      split at hc
      · rename_i h1
        cases hc
        simp only [rval] at hv
        split at hv
        · rename_i cs hat
          split at hv
          · rename_i hl
            obtain ⟨ad, vs, hu, hcs⟩ := at_rep hr.objs (hval x) hat
            refine ⟨if agg then .agg ((List.range n).map vs).toArray else vs 0, ?_, ?_⟩
            · rw [hf2, hu, Sem.run_bind]
              simp only [asAddr, Sem.run_pure, Result.andThen_ok]
              exact run_loadVar ht hn (fun j hj => (hcs j _ (List.getElem?_eq_getElem (by omega))).1) h1
            · cases agg with
              | true =>
                simp only [if_true, Option.some.injEq] at hv ⊢
                subst hv
                refine .agg (by simp; omega) fun j c u hj hu' => ?_
                rw [List.getElem?_take] at hj
                split at hj
                · rename_i hjn
                  simp [List.getElem?_range hjn] at hu'
                  subst hu'
                  exact (hcs j c hj).2.2
                · cases hj
              | false =>
                simp only [Bool.false_eq_true, if_false] at hv ⊢
                exact (hcs 0 v hv).2.2
          · cases hv
        · cases hv
      · cases hc
    · cases hc

theorem results_run (f : ResultVar → Sem Value) {a : Act} (hf1 : ∀ t, f (.tmp t) = pure (a.tmps.getD t undef)) (hf2 : ∀ x t, f (.cell x t) = (do loadVar t (← asAddr (a.tmps.getD x undef)))) {st : ASt} {B : Nat} (hr : RelA w X μ a st B) : ∀ (rs : List ResultVar) (srs : List SRes) (vs : List AV), rs.mapM (cres P) = some srs → srs.mapM (rval st) = some vs →
    ∃ us : List Value, (rs.mapM f).run P w = .ok us w ∧ us.length = vs.length ∧ ∀ (j : Nat) (c : AV) (u : Value), vs[j]? = some c → us[j]? = some u → Rep w X μ c u
  | [], srs, vs, h1, h2 => by
    simp only [List.mapM_nil, Option.pure_def, Option.some.injEq] at h1
    subst h1
    simp only [List.mapM_nil, Option.pure_def, Option.some.injEq] at h2
    subst h2
    exact ⟨[], by simp, rfl, fun j c u h => by simp at h⟩
  | r :: rs, srs, vs, h1, h2 => by
    simp only [List.mapM_cons, Option.bind_eq_bind, Option.pure_def, Option.bind_eq_some_iff, Option.some.injEq] at h1
    obtain ⟨sr, hsr, srs', hsrs, rfl⟩ := h1
    simp only [List.mapM_cons, Option.bind_eq_bind, Option.pure_def, Option.bind_eq_some_iff, Option.some.injEq] at h2
    obtain ⟨v, hv, vs', hvs, rfl⟩ := h2
    obtain ⟨u, hu, hru⟩ := res_sound f hf1 hf2 hr hsr hv
    obtain ⟨us, hus, hl, hrs⟩ := results_run f hf1 hf2 hr rs srs' vs' hsrs hvs
    refine ⟨u :: us, ?_, by simp [hl], fun j c q hc hq => ?_⟩
    · simp only [List.mapM_cons, Sem.run_bind, hu, hus, Sem.run_pure, Result.andThen_ok]
    · cases j with
      | zero => simp at hc hq; subst hc; subst hq; exact hru
      | succ j => exact hrs j c q (by simpa using hc) (by simpa using hq)

theorem freshes_len (k : Nat) : ∀ (n : Nat) (l : List AObj), (freshes k n l).length = l.length
  | _, [] => rfl
  | n, o :: r => by simp [freshes, freshes_len k (n + 1) r]

theorem freshes_at (k : Nat) : ∀ (n : Nat) (l : List AObj) (j : Nat), (freshes k n l)[j]? = (l[j]?).map (fresh k (n + j))
  | n, [], j => by simp [freshes]
  | n, o :: r, 0 => by simp [freshes]
  | n, o :: r, j + 1 => by
    simp only [freshes, List.getElem?_cons_succ]
    rw [freshes_at k (n + 1) r j, show n + 1 + j = n + (j + 1) by omega]

theorem finish_sound {w0 : World} {X0 : Nat → Prop} {μ0 : Mu} {k : Nat} (h0 : ∀ id, μ0 id ≠ none → id < k) {st : ASt} (hr : RelA w X μ a st st.nxt) (hf : Fr w0 X0 μ0 w X μ) (hk : st.k = k) {fn : Func} {sf : SFun} (hres : fn.results.toList.mapM (cres P) = some sf.res) {r : AV} {Hs : List AObj} (h : finish sf st = some (r, Hs)) :
    ∃ v μ', (results fn a.tmps).run P w = .ok v w ∧ Rep w X μ' r v ∧ Holds w X μ' (zipFrom 0 Hs) ∧ (∀ id m, μ' id = some m → id < Hs.length) ∧ Fr w0 X0 μ0 w X μ' := by
  unfold finish at h
  split at h
  rotate_left
  · cases h
  rename_i vs hvs
  simp only [] at h
  split at h
  · rename_i hc
    split at h
    · rename_i os hos
      simp only [Option.some.injEq, Prod.mk.injEq] at h
      obtain ⟨rfl, rfl⟩ := h
      rw [hk] at hc
      obtain ⟨h1, h2, h3, h4⟩ := renumber h0 hr hf hc.1 hc.2
      obtain ⟨hl, hat⟩ := mapM_at hos
      rw [hk] at hl hat ⊢
      have key : ∃ u, (results fn a.tmps).run P w = .ok u w ∧ Rep w X μ (result vs) u := by
        obtain ⟨us, hus, hul, hur⟩ := results_run (fun
          | .tmp t => pure (a.tmps.getD t undef)
          | .cell x t => do loadVar t (← asAddr (a.tmps.getD x undef))) (fun t => rfl) (fun x t => rfl) hr _ _ _ hres hvs
        refine ⟨if h : us.length = 1 then us[0] else .tuple us.toArray, ?_, ?_⟩
        · unfold results
          rw [Array.mapM_eq_mapM_toList]
          simp only [Sem.run_bind, Sem.run_map, Sem.run_pure]
          erw [hus]
          simp
        · unfold result
          split
          · rename_i v
            match us, hul with
            | [u], _ => exact hur 0 v u rfl rfl
          · rename_i hne
            rw [dif_neg (by
              intro e
              rw [hul] at e
              rcases vs with _ | ⟨v, _ | ⟨v', t⟩⟩
              · simp at e
              · exact hne v rfl
              · simp at e)]
            refine .tup (by simp [hul]) fun j c v hc hv => hur j c v hc (by simpa using hv)
      obtain ⟨u, hrun, hrep⟩ := key
      refine ⟨_, _, hrun, h4 hrep, ⟨h1.x, fun j m hj => ?_, h1.inj, h1.lt⟩, fun j m hj => ?_, h3⟩
      · obtain ⟨ob, hlk, hob⟩ := h1.h j m hj
        rw [relist_lk, if_pos (Nat.zero_le _), Nat.sub_zero] at hlk
        obtain ⟨id, h5, h6⟩ := Option.bind_eq_some_iff.1 hlk
        obtain ⟨ob0, h7, rfl⟩ := Option.map_eq_some_iff.1 h6
        refine ⟨_, ?_, hob⟩
        have hjl : j < os.length := by rw [← hl]; exact (List.getElem?_eq_some_iff.1 h5).1
        obtain ⟨id', h8, h9⟩ := hat j os[j] (List.getElem?_eq_getElem hjl)
        rw [h5] at h8; cases h8
        rw [h7] at h9; cases h9
        have := zip_lk (freshes k 0 (os.map (AObj.ren (pos (List.range k ++ closure st.H 3 (List.range k ++ ids 504 (result vs))).eraseDups)))) 0 j (fresh k j (os[j].ren _)) (by rw [freshes_at, List.getElem?_map, List.getElem?_eq_getElem hjl]; simp; rfl)
        rwa [Nat.zero_add] at this
      · have := h2 j (by rw [hj]; simp)
        rw [freshes_len, List.length_map, ← hl]; exact this
    · cases h
  · cases h

theorem start_sound {fn : SFun} {as : List AV} {vs : Array Value} {Hs : List AObj} (hl : as.length = vs.size) (hrep : ∀ (j : Nat) (c : AV) (v : Value), as[j]? = some c → vs[j]? = some v → Rep w X μ c v) (hH : Holds w X μ (zipFrom 0 Hs)) (hlt : ∀ id m, μ id = some m → id < Hs.length) :
    RelA w X μ { tmps := vs ++ Array.replicate (fn.nt - vs.size) undef, defers := [] } (start fn as Hs) (start fn as Hs).nxt := by
  refine ⟨⟨by simp [start, hl], fun t x ht => ?_⟩, hH, fun k ob hk => ?_, fun k hk => ?_, rfl⟩
  · simp only [start] at ht
    by_cases h : t < as.length
    · rw [List.getElem?_append_left h] at ht
      have hv : t < vs.size := by omega
      exact ⟨vs[t], by rw [Array.getElem?_append_left hv, Array.getElem?_eq_getElem hv], hrep t x _ ht (Array.getElem?_eq_getElem hv)⟩
    · rw [List.getElem?_append_right (by omega), List.getElem?_replicate] at ht
      split at ht
      · rename_i h2
        cases ht
        exact ⟨undef, by rw [Array.getElem?_append_right (by omega), Array.getElem?_replicate, if_pos (by omega)], .top _⟩
      · cases ht
  · obtain ⟨h1, h2⟩ := lk_zip Hs 0 k ob hk
    have := (List.getElem?_eq_some_iff.1 h2).1
    simp at this
    exact this
  · obtain ⟨m, hm⟩ := Option.ne_none_iff_exists'.1 hk
    exact hlt k m hm

/-- A call does what a function of values says. -/
def PrimOk (P : Program) (g : Nat) (f : List AV → List AObj → Option (AV × List AObj)) : Prop := ∀ as Hs r Hs', f as Hs = some (r, Hs') →
  (∃ fn, P.funcs[g]? = some fn ∧ fn.body.isNone = false ∧ (fn.name == "runtime.NumGoroutine") = false) ∧
  ∀ (w : World) (X : Nat → Prop) (μ : Mu) (vs : Array Value), as.length = vs.size → (∀ (j : Nat) (c : AV) (v : Value), as[j]? = some c → vs[j]? = some v → Rep w X μ c v) → Holds w X μ (zipFrom 0 Hs) → (∀ id m, μ id = some m → id < Hs.length) →
    CallOk P w X μ g vs r Hs'

/-- The table is made of the program's functions. -/
def TOk (P : Program) (T : Nat → Option SFun) : Prop := ∀ f s, T f = some s → (s.prim = none ∧ ∃ gr ann, cfun P gr ann f = some s) ∨ ∃ p, s.prim = some p ∧ PrimOk P f p

theorem clone_nil (C : FT) (L : LT) (e sz b : Nat) (zero : List AV) (p : Option (List AV → List AObj → Option (AV × List AObj))) : ∃ st, acode C L (cloneBody e sz b zero) (start ⟨8, [.tmp 2], cloneBody e sz b zero, p⟩ [.nilS] []) = some (.ret, st) ∧ finish ⟨8, [.tmp 2], cloneBody e sz b zero, p⟩ st = some (.own 0 0 0, [⟨e, sz, false, [], 0⟩]) := by
  refine ⟨_, by simp [cloneBody, start, acode, aops, guardOf, calm, ev, put, binOpA, nilq, zipFrom]; rfl, ?_⟩
  simp [finish, rval, result, ids, closure, pos, AV.ren, AObj.ren, lk, List.eraseDups_cons, freshes, fresh]

theorem clone_emp (C : FT) (L : LT) (e sz b : Nat) (zero : List AV) (p : Option (List AV → List AObj → Option (AV × List AObj))) : ∃ st, acode C L (cloneBody e sz b zero) (start ⟨8, [.tmp 2], cloneBody e sz b zero, p⟩ [.emp] []) = some (.ret, st) ∧ finish ⟨8, [.tmp 2], cloneBody e sz b zero, p⟩ st = some (.own 0 0 0, [⟨e, sz, false, [], 0⟩]) := by
  refine ⟨_, by simp [cloneBody, start, acode, aops, guardOf, calm, loud, ev, put, binOpA, nilq, zipFrom, fill, content, lk, hput]; rfl, ?_⟩
  simp [finish, rval, result, ids, closure, pos, AV.ren, AObj.ren, lk, List.eraseDups_cons, freshes, fresh]

theorem clone_ro (C : FT) (L : LT) (e sz b : Nat) (zero : List AV) (p : Option (List AV → List AObj → Option (AV × List AObj))) (xs : List (List AV)) (fl : Bool) (hx : xs ≠ []) (h1 : xs.length * b ≤ 140737488355328) (h2 : xs.length ≤ 140737488355328) (hs : xs.all (fun x => x.all simple) = true) :
    ∃ st, acode C L (cloneBody e sz b zero) (start ⟨8, [.tmp 2], cloneBody e sz b zero, p⟩ [.ro sz xs fl] []) = some (.ret, st) ∧ finish ⟨8, [.tmp 2], cloneBody e sz b zero, p⟩ st = some (.own 0 0 xs.length, [⟨e, sz, false, xs, 0⟩]) := by
  have hsim : ∀ x ∈ xs, ∀ c ∈ x, simple c = true := fun x hx c hc => List.all_eq_true.1 (List.all_eq_true.1 hs x hx) c hc
  have hren : ∀ f, xs.map (fun x => x.map fun c => c.ren f) = xs := by
    intro f
    refine (List.map_congr_left fun x hx => ?_).trans (List.map_id _)
    refine (List.map_congr_left fun c hc => ?_).trans (List.map_id _)
    have := hsim x hx c hc
    cases c <;> first | rfl | simp [simple] at this
  have hids : xs.flatMap (fun x => x.flatMap (ids 503)) = [] := by
    simp only [List.flatMap_eq_nil_iff]
    intro x hx c hc
    have := hsim x hx c hc
    cases c <;> first | rfl | simp [simple] at this
  have hpos : ¬ (xs.length = 0) := by simpa using hx
  refine ⟨_, by simp [cloneBody, start, acode, aops, guardOf, calm, loud, ev, put, binOpA, nilq, zipFrom, fill, content, lk, hput, hx, h1, h2, forget, drop1, AV.ren, AObj.ren, hren]; rfl, ?_⟩
  simp [finish, rval, result, ids, closure, pos, AV.ren, AObj.ren, lk, List.eraseDups_cons, hids, hren, freshes, fresh]

/-- A function whose body is read. -/
theorem body_sound {C : FT} {L : LT} (hC : CSound P C) (hL : LSound P L) (hmix : P.follows .mixedOrders = true) {g : Nat} {sf : SFun} {gr : List Nat} {ann : List (List Nat)} (hcf : cfun P gr ann g = some sf) {as : List AV} {Hs Hs' : List AObj} {r : AV} {ex : AEx} {st : ASt} (hac : acode C L sf.body (start sf as Hs) = some (ex, st)) (hex : ex = .normal ∨ ex = .ret)
    (hfin : finish sf st = some (r, Hs')) : (∃ fn, P.funcs[g]? = some fn ∧ fn.body.isNone = false ∧ (fn.name == "runtime.NumGoroutine") = false) ∧
    ∀ (w : World) (X : Nat → Prop) (μ : Mu) (vs : Array Value), as.length = vs.size → (∀ (j : Nat) (c : AV) (v : Value), as[j]? = some c → vs[j]? = some v → Rep w X μ c v) → Holds w X μ (zipFrom 0 Hs) → (∀ id m, μ id = some m → id < Hs.length) → CallOk P w X μ g vs r Hs' := by
  unfold cfun at hcf
  simp only [Option.bind_eq_bind, Option.bind_eq_some_iff] at hcf
  obtain ⟨fn, hfn, c, hbody, rs, hres, hcf⟩ := hcf
  split at hcf
  · cases hcf
  · rename_i hname
    split at hcf
    · rename_i s n' hcc
      cases hcf
      refine ⟨⟨fn, hfn, by rw [hbody]; rfl, by simpa using hname⟩, fun w X μ vs hl hrep hH hlt => ?_⟩
      have h0 : ∀ id, μ id ≠ none → id < Hs.length := fun id h => by
        obtain ⟨m, hm⟩ := Option.ne_none_iff_exists'.1 h
        exact hlt id m hm
      refine calls_of_wp hfn hbody (wp_mono (code_sound hC hL hmix (w0 := w) (X0 := X) (μ0 := μ) (k := Hs.length) h0 c 0 s n' hcc _ ex st hac _ w X μ (start_sound (fn := { nt := fn.ntmps, res := rs, body := s }) hl hrep hH hlt) .refl rfl) fun e a' w' ⟨he, X', μ', h1, h2, h3⟩ => ?_)
      obtain ⟨v, μ'', q1, q2, q3, q4, q5⟩ := finish_sound (P := P) (fn := fn) h0 h1 h2 h3 hres hfin
      subst he
      rcases hex with rfl | rfl
      · exact ⟨h1.d, v, q1, v, X', μ'', rfl, q2, q3, q4, q5⟩
      · exact ⟨h1.d, v, q1, v, X', μ'', rfl, q2, q3, q4, q5⟩
    · cases hcf

theorem no_calls : CSound P (fun _ _ _ => none) ∧ LSound P (fun _ _ _ => none) := by
  refine ⟨fun g as Hs r Hs' h => (by cases h), ?_⟩
  intro w0 X0 μ0 k h0 gr ann c n s n' hcc lv st ex st' h
  cases h

theorem run_sound (hmix : P.follows .mixedOrders = true) {T : Nat → Option SFun} (hT : TOk P T) : ∀ n, CSound P (runBoth T n).1 ∧ LSound P (runBoth T n).2
  | 0 => by
    refine ⟨fun g as Hs r Hs' h => ?_, ?_⟩
    · simp [runBoth] at h
    · intro w0 X0 μ0 k h0 gr ann c n s n' hcc lv st ex st' h
      simp [runBoth] at h
  | n + 1 => by
    obtain ⟨hC, hL⟩ := run_sound hmix hT n
    refine ⟨fun g as Hs r Hs' h => ?_, ?_⟩
    · simp only [runBoth] at h
      split at h
      · rename_i sf hsf
        rcases hT g sf hsf with ⟨hp, gr, ann, hcf⟩ | ⟨p, hp, hpok⟩
        · simp only [runFn, hp] at h
          split at h
          · rename_i st hac; exact body_sound hC hL hmix hcf hac (.inl rfl) h
          · rename_i st hac; exact body_sound hC hL hmix hcf hac (.inr rfl) h
          · cases h
        · simp only [runFn, hp] at h
          exact hpok as Hs r Hs' h
      · cases h
    · intro w0 X0 μ0 k h0 gr ann c m s m' hcc lv st ex st' h a w X μ hr hf hk b q cs
      simp only [runBoth] at h
      obtain ⟨μ1, hr1, hf1, hk1⟩ := canon_sound h0 hr hf hk lv
      split at h
      · rename_i st1 hac
        obtain ⟨e, a1, w1, ⟨he, X2, μ2, k1, k2, k3⟩, harr⟩ := code_sound hC hL hmix h0 c m s m' hcc _ .normal st1 hac a w X μ1 hr1 hf1 hk1 b (.inLoop c :: q) cs
        subst he
        obtain ⟨e, a2, w2, h2, harr2⟩ := hL w0 X0 μ0 k h0 gr ann c m s m' hcc lv st1 ex st' h a1 w1 X2 μ2 k1 k2 k3 b q cs
        exact ⟨e, a2, w2, h2, .of_steps (Steps.trans harr (.one step_inLoop)) harr2⟩
      · rename_i r hne
        obtain ⟨e, a1, w1, ⟨he, X2, μ2, k1, k2, k3⟩, harr⟩ := code_sound hC hL hmix h0 c m s m' hcc _ ex st' h a w X μ1 hr1 hf1 hk1 b (.inLoop c :: q) cs
        subst he
        cases ex with
        | normal => exact absurd h (by intro e; exact hne _ e)
        | exit id => exact ⟨_, a1, w1, ⟨rfl, X2, μ2, k1, k2, k3⟩, .pass (x := .inLoop c) rfl (fun _ _ => .inl (by simp [AEx.out])) harr⟩
        | ret => exact ⟨_, a1, w1, ⟨rfl, X2, μ2, k1, k2, k3⟩, .pass (x := .inLoop c) rfl (fun _ _ => .inl (by simp [AEx.out])) harr⟩

theorem one_rep {c : AV} {vs : Array Value} (hl : 0 < vs.size) (hc : Rep w X μ c vs[0]) : ∀ (j : Nat) (c' : AV) (v : Value), [c][j]? = some c' → vs[j]? = some v → Rep w X μ c' v := by
  intro j c' v h1 h2
  cases j with
  | zero =>
    cases h1
    rw [Array.getElem?_eq_getElem hl] at h2
    cases h2
    exact hc
  | succ j => simp at h1

/-- A copy of a slice is what 'cloneR' says. -/
theorem clone_ok (hmix : P.follows .mixedOrders = true) {g e sz b : Nat} {sf : SFun} {gr : List Nat} {ann : List (List Nat)} (hcf : cfun P gr ann g = some sf) (hcl : isClone e sz b sf) : PrimOk P g (cloneR e sz b) := by
  intro as Hs r Hs' h
  obtain ⟨nt, res, body, prim⟩ := sf
  obtain ⟨zero, hnt, hrs, hbd⟩ := hcl
  simp only [] at hnt hrs hbd
  subst hnt hrs hbd
  obtain ⟨hC, hL⟩ := no_calls (P := P)
  have main : ∀ {as Hs r Hs' ex st}, _ := fun {as Hs r Hs' ex st} hac hex hfin => body_sound (C := fun _ _ _ => none) (L := fun _ _ _ => none) hC hL hmix hcf (as := as) (Hs := Hs) (r := r) (Hs' := Hs') (ex := ex) (st := st) hac hex hfin
  unfold cloneR at h
  split at h
  · rename_i s0 xs fl
    split at h
    · rename_i hcnd
      obtain ⟨hsz, hb1, hb2, hsim⟩ := hcnd
      cases h
      obtain ⟨st0, e1, e2⟩ := clone_nil (fun _ _ _ => none) (fun _ _ _ => none) e sz b zero prim
      refine ⟨(main e1 (.inr rfl) e2).1, fun w X μ vs hl hrep hH hlt => ?_⟩
      have hv0 : 0 < vs.size := by rw [← hl]; simp
      have hv := hrep 0 _ vs[0] rfl (Array.getElem?_eq_getElem hv0)
      by_cases hxs : xs = []
      · subst hxs
        obtain ⟨A, cc, hvs⟩ : ∃ A cc, vs[0] = .slice A 0 cc := by
          generalize vs[0] = v at hv
          cases hv with
          | roE => exact ⟨_, _, rfl⟩
          | ro vs hn => subst hn; exact ⟨_, _, rfl⟩
        cases A with
        | none => exact (main e1 (.inr rfl) e2).2 w X μ vs (by simpa using hl) (one_rep hv0 (by rw [hvs]; exact .nilS)) hH hlt
        | some ad =>
          obtain ⟨st, h1, h2⟩ := clone_emp (fun _ _ _ => none) (fun _ _ _ => none) e sz b zero prim
          exact (main h1 (.inr rfl) h2).2 w X μ vs (by simpa using hl) (one_rep hv0 (by rw [hvs]; exact .emp)) hH hlt
      · obtain rfl : s0 = sz := hsz.resolve_right hxs
        obtain ⟨st, h1, h2⟩ := clone_ro (fun _ _ _ => none) (fun _ _ _ => none) e s0 b zero prim xs fl hxs hb1 hb2 hsim
        exact (main h1 (.inr rfl) h2).2 w X μ vs (by simpa using hl) (one_rep hv0 hv) hH hlt
    · cases h
  · cases h

end Go.Proofs.Ytjpccbjgmogclaa.Lift
