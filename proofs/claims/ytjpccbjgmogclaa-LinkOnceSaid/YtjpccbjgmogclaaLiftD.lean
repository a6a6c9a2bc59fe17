/- A reading of the program's code by values alone: each operation that turns nothing does what the reading says. -/
import Derived.Test.YtjpccbjgmogclaaLiftC
import Derived.Laws.AppendOwn
import Derived.Laws.MakeOwn
import Derived.Laws.Strings
import Derived.Lib.AppendStr
set_option linter.all false
set_option linter.unusedSimpArgs false
namespace Go.Proofs.Ytjpccbjgmogclaa.Lift
open Go Go.RowKit

variable {P : Program} {w : World} {X : Nat → Prop} {μ : Mu}

/-- Cells, one by one. -/
def RepC (w : World) (X : Nat → Prop) (μ : Mu) (cs : List AV) (vs : Array Value) : Prop :=
  cs.length = vs.size ∧ ∀ (j : Nat) (c : AV), cs[j]? = some c → ∃ v : Value, vs[j]? = some v ∧ v.oneCell' = true ∧ Rep w X μ c v

theorem rep_one {a : AV} {v : Value} (h : Rep w X μ a v) (h1 : one a = true) : v.oneCell' = true := by
  cases h <;> first | rfl | exact absurd h1 (by simp [one])

theorem cells_rep {a : AV} {v : Value} (h : Rep w X μ a v) (h1 : (cells a).all one = true) : RepC w X μ (cells a) v.cells := by
  have key : ∀ {b : AV} {u : Value}, Rep w X μ b u → cells b = [b] → u.cells = #[u] → (cells b).all one = true → RepC w X μ (cells b) u.cells := by
    intro b u hb e1 e2 e3
    rw [e1] at e3 ⊢
    rw [e2]
    refine ⟨rfl, fun j c hc => ?_⟩
    cases j with
    | zero =>
      obtain rfl : b = c := by simpa using hc
      exact ⟨u, rfl, rep_one hb (by simpa using e3), hb⟩
    | succ j => simp at hc
  cases h with
  | agg hl h =>
    refine ⟨hl, fun j c hc => ?_⟩
    have hj : j < _ := (List.getElem?_eq_some_iff.1 hc).1
    simp only [cells] at hj hc h1
    rw [hl] at hj
    obtain ⟨v, hv⟩ : ∃ v, (_ : Array Value)[j]? = some v := ⟨_, Array.getElem?_eq_getElem hj⟩
    have hr := h j c v hc hv
    refine ⟨v, hv, rep_one hr ?_, hr⟩
    exact List.all_eq_true.1 h1 c (List.mem_of_getElem? hc)
  | top v => simp [cells, one] at h1
  | tup hl h => simp [cells, one] at h1
  | bool b => exact key (.bool b) rfl rfl h1
  | int k n => exact key (.int k n) rfl rfl h1
  | str s => exact key (.str s) rfl rfl h1
  | nilP => exact key .nilP rfl rfl h1
  | nilS => exact key .nilS rfl rfl h1
  | emp => exact key .emp rfl rfl h1
  | nilF => exact key .nilF rfl rfl h1
  | nilI => exact key .nilI rfl rfl h1
  | ref h i o => exact key (.ref h i o) rfl rfl h1
  | rref vs hX hlt hv ho hr => exact key (.rref vs hX hlt hv ho hr) rfl rfl h1
  | roE h => exact key (.roE h) rfl rfl h1
  | ro vs hn hX hlt hc hf hz hv ho hr => exact key (.ro vs hn hX hlt hc hf hz hv ho hr) rfl rfl h1
  | own h hb hn hc ho => exact key (.own h hb hn hc ho) rfl rfl h1
  | own0 => exact key .own0 rfl rfl h1
  | rl h hb hn hc ho => exact key (.rl h hb hn hc ho) rfl rfl h1
  | fn hl hm h h' => exact key (.fn hl hm h h') rfl rfl h1
  | ifc h => exact key (.ifc h) rfl rfl h1

theorem cval_rep {v : Value} {a : AV} (h : cval v = some a) : Rep w X μ a v ∧ v.oneCell' = true := by
  unfold cval at h
  split at h <;> first | (cases h; done) | (cases h; exact ⟨.roE (fun _ => rfl), rfl⟩) | (cases h; exact ⟨by constructor, rfl⟩)

theorem mapM_at {α β : Type} {f : α → Option β} : ∀ {l : List α} {r : List β}, l.mapM f = some r → l.length = r.length ∧ ∀ (j : Nat) (b : β), r[j]? = some b → ∃ a : α, l[j]? = some a ∧ f a = some b
  | [], r, h => by
    simp at h; subst h; simp
  | x :: l, r, h => by
    simp only [List.mapM_cons, Option.bind_eq_bind, Option.pure_def, Option.bind_eq_some_iff, Option.some.injEq] at h
    obtain ⟨b, hb, r', hr, rfl⟩ := h
    obtain ⟨h1, h2⟩ := mapM_at hr
    refine ⟨by simp [h1], fun j c hc => ?_⟩
    cases j with
    | zero => simp at hc; subst hc; exact ⟨x, rfl, hb⟩
    | succ j => simpa using h2 j c (by simpa using hc)

theorem cvals_rep {vs : Array Value} {cs : List AV} (h : vs.toList.mapM cval = some cs) : RepC w X μ cs vs := by
  obtain ⟨h1, h2⟩ := mapM_at h
  refine ⟨by simpa using h1.symm, fun j c hc => ?_⟩
  obtain ⟨v, hv, hf⟩ := h2 j c hc
  have hr := cval_rep (w := w) (X := X) (μ := μ) hf
  exact ⟨v, by simpa using hv, hr.2, hr.1⟩

theorem nz_at : ∀ (cs : List AV) (l : List Nat) (j : Nat) (c : AV), (nz cs l)[j]? = some c → ∃ c0, cs[j]? = some c0 ∧ (c = c0 ∨ (c0 = .ro 0 [] true ∧ ∃ s, c = .ro s [] true)) := by
  intro cs l
  fun_induction nz cs l with
  | case1 r s l ih =>
    intro j c h
    cases j with
    | zero => simp at h; subst h; exact ⟨_, rfl, .inr ⟨rfl, s, rfl⟩⟩
    | succ j => simpa using ih j c (by simpa using h)
  | case2 a r s l hne ih =>
    intro j c h
    cases j with
    | zero => simp at h; subst h; exact ⟨_, rfl, .inl rfl⟩
    | succ j => simpa using ih j c (by simpa using h)
  | case3 r => intro j c h; exact ⟨c, h, .inl rfl⟩
  | case4 l h => intro j c h'; simp at h'

theorem nz_len : ∀ (cs : List AV) (l : List Nat), (nz cs l).length = cs.length := by
  intro cs l
  fun_induction nz cs l <;> simp_all

theorem nz_rep {cs : List AV} {vs : Array Value} {l : List Nat} (h : RepC w X μ cs vs) : RepC w X μ (nz cs l) vs := by
  refine ⟨by rw [nz_len]; exact h.1, fun j c hc => ?_⟩
  obtain ⟨c0, h0, h1⟩ := nz_at cs l j c hc
  obtain ⟨v, hv, h2, h3⟩ := h.2 j c0 h0
  refine ⟨v, hv, h2, ?_⟩
  rcases h1 with rfl | ⟨rfl, s, rfl⟩
  · exact h3
  · cases h3 with
    | roE h => exact .roE h
    | ro vs hn hX hlt hc hf => subst hn; exact .roE hf

theorem ro_any {s s' : Nat} {v : Value} (h : Rep w X μ (.ro s [] true) v) : Rep w X μ (.ro s' [] true) v := by
  cases h with
  | roE h => exact .roE h
  | ro vs hn hX hlt hc hf => subst hn; exact .roE hf

theorem cval'_rep {v : Value} {a : AV} (h : cval' v = some a) : Rep w X μ a v := by
  unfold cval' at h
  split at h
  · rename_i cs
    obtain ⟨r, hr, rfl⟩ := Option.map_eq_some_iff.1 h
    obtain ⟨h1, h2⟩ := cvals_rep (w := w) (X := X) (μ := μ) hr
    refine .agg h1 fun j c v hc hv => ?_
    obtain ⟨u, hu, _, hrep⟩ := h2 j c hc
    rw [hu] at hv
    cases hv
    exact hrep
  · exact (cval_rep h).1

/-- The activation's places. -/
structure RelS (w : World) (X : Nat → Prop) (μ : Mu) (a : Act) (σ : List AV) : Prop where
  size : a.tmps.size = σ.length
  v : ∀ (t : Nat) (x : AV), σ[t]? = some x → ∃ v : Value, a.tmps[t]? = some v ∧ Rep w X μ x v

theorem RelS.ev {a : Act} {σ : List AV} (h : RelS w X μ a σ) {x : Operand} {s : SOpd} (hs : copd x = some s) : Rep w X μ (ev σ s) (a.eval x) := by
  unfold copd at hs
  split at hs
  · rename_i t
    cases hs
    simp only [Lift.ev, Act.eval, List.getD_eq_getElem?_getD]
    cases ht : σ[t]? with
    | none => exact .top _
    | some y =>
      obtain ⟨v, hv, hr⟩ := h.v t y ht
      simpa [hv] using hr
  · rename_i v
    obtain ⟨c, hc, rfl⟩ := Option.map_eq_some_iff.1 hs
    exact cval'_rep hc
  · cases hs
    exact .fn rfl rfl (fun j c v hc _ => by simp at hc) (fun j c v hc _ => by simp at hc)
  · cases hs

theorem RelS.evT {P : Program} {a : Act} {σ : List AV} (h : RelS w X μ a σ) {t : TypeId} {x : Operand} {s : SOpd} (hs : copdT P t x = some s) : Rep w X μ (Lift.ev σ s) (a.eval x) := by
  unfold copdT at hs
  split at hs
  · rename_i he
    have h0 := h.ev he
    split at hs
    · split at hs
      · cases hs; exact ro_any h0
      · cases hs; exact h0
    · cases hs; exact h0
  · exact h.ev hs

theorem RelS.evA {P : Program} {a : Act} {σ : List AV} (h : RelS w X μ a σ) : ∀ {ts : List TypeId} {xs : List Operand} {ss : List SOpd}, cargs P ts xs = some ss →
    ss.length = xs.length ∧ ∀ (j : Nat) (c : AV), (ss.map (Lift.ev σ))[j]? = some c → ∃ x : Operand, xs[j]? = some x ∧ Rep w X μ c (a.eval x) := by
  intro ts xs
  fun_induction cargs P ts xs with
  | case1 t =>
    intro ss hs; cases hs; exact ⟨rfl, fun j c hc => by simp at hc⟩
  | case2 t ts x xs s r h2 h1 ih =>
    intro ss hs
    cases hs
    obtain ⟨l1, r1⟩ := ih h2
    refine ⟨by simp [l1], fun j c hc => ?_⟩
    cases j with
    | zero => simp at hc; subst hc; exact ⟨x, rfl, h.evT h1⟩
    | succ j => simpa using r1 j c (by simpa using hc)
  | case3 => intro ss hs; cases hs
  | case4 x xs s r h2 h1 ih =>
    intro ss hs
    cases hs
    obtain ⟨l1, r1⟩ := ih h2
    refine ⟨by simp [l1], fun j c hc => ?_⟩
    cases j with
    | zero => simp at hc; subst hc; exact ⟨x, rfl, h.ev h1⟩
    | succ j => simpa using r1 j c (by simpa using hc)
  | case5 => intro ss hs; cases hs

theorem RelS.evs {a : Act} {σ : List AV} (h : RelS w X μ a σ) {xs : List Operand} {ss : List SOpd} (hs : xs.mapM copd = some ss) :
    ss.length = xs.length ∧ ∀ (j : Nat) (c : AV), (ss.map (Lift.ev σ))[j]? = some c → ∃ x : Operand, xs[j]? = some x ∧ Rep w X μ c (a.eval x) := by
  obtain ⟨h1, h2⟩ := mapM_at hs
  refine ⟨h1.symm, fun j c hc => ?_⟩
  rw [List.getElem?_map] at hc
  obtain ⟨s, hs, rfl⟩ := Option.map_eq_some_iff.1 hc
  obtain ⟨x, hx, hf⟩ := h2 j s hs
  exact ⟨x, hx, h.ev hf⟩

/-- What an operation has made. -/
structure New (w : World) (X : Nat → Prop) (μ : Mu) (w' : World) (X' : Nat → Prop) (μ' : Mu) (base : Nat) (adds : List AObj) : Prop where
  obj : ∀ id m, μ' id = some m → μ id = none → ∃ k ob, id = base + k ∧ adds[k]? = some ob ∧ HObj w' X' μ' ob m ∧ X' m.b ∧ w.heap.size ≤ m.b
  inj : ∀ i j mi mj, μ i = none → μ j = none → μ' i = some mi → μ' j = some mj → mi.b = mj.b → i = j

theorem New.same {w' : World} {X' : Nat → Prop} {base : Nat} {adds : List AObj} : New w X μ w' X' μ base adds := by
  constructor
  · intro id m h h0
    rw [h] at h0; cases h0
  · intro i j mi mj h0 h1 h h' e
    rw [h] at h0; cases h0

def addX (X : Nat → Prop) (b : Nat) : Nat → Prop := fun x => X x ∨ x = b
def addM (μ : Mu) (id : Nat) (m : MI) : Mu := fun i => if i = id then some m else μ i

theorem ext1 {w' : World} {base : Nat} {m : MI} (h1 : w'.os = w.os) (h2 : w'.tape = w.tape) (h3 : w'.output = w.output) (h4 : w'.heap.size = w.heap.size + 1) (h5 : ∀ b, b < w.heap.size → w'.heap[b]? = w.heap[b]?)
    (hb : m.b = w.heap.size) (hf : μ base = none) : Ext w X μ w' (addX X w.heap.size) (addM μ base m) :=
  ⟨h1, h2, h3, by omega, h5, fun b h => .inl h, fun b hlt h => h.elim id (fun e => by omega), fun b h => h.elim .inl (fun e => .inr (by omega)), fun id m' h => by
    unfold addM
    by_cases e : id = base
    · subst e; rw [hf] at h; cases h
    · simp [e, h], fun id m' h => by
    unfold addM at h
    by_cases e : id = base
    · simp only [e, if_true] at h; cases h; exact .inr (by omega)
    · simp only [e, if_false] at h; exact .inl h⟩

theorem new1 {w' : World} {base : Nat} {m : MI} {ob : AObj} (hb : m.b = w.heap.size) (hf : μ base = none) (ho : HObj w' (addX X w.heap.size) (addM μ base m) ob m) :
    New w X μ w' (addX X w.heap.size) (addM μ base m) base [ob] := by
  have only : ∀ id m', addM μ base m id = some m' → μ id = none → id = base ∧ m' = m := by
    intro id m' h h0
    unfold addM at h
    by_cases e : id = base
    · simp only [e, if_true] at h; cases h; exact ⟨e, rfl⟩
    · simp only [e, if_false] at h; rw [h] at h0; cases h0
  refine ⟨fun id m' h h0 => ?_, fun i j mi mj hi hj h h' _ => (only i mi h hi).1.trans (only j mj h' hj).1.symm⟩
  obtain ⟨rfl, rfl⟩ := only id m' h h0
  exact ⟨0, ob, rfl, rfl, ho, .inr hb, Nat.le_of_eq hb.symm⟩

theorem addM_self (μ : Mu) (id : Nat) (m : MI) : addM μ id m id = some m := by simp [addM]

theorem wp_value {o : Oper} {a : Act} {K : Act → World → Prop} {Q : Exit → Act → World → Prop} {v' : Value} {w' : World} (h : (execOp a.eval o).run P w = .ok (.value v') w') (hk : K (a.put o.dst v') w') : o.wp P a w K Q := by
  unfold Oper.wp; rw [h]; exact hk

/-- Cells written over, here and there. -/
theorem foldl_set (off : Nat) : ∀ (vs : List Value) (n : Nat) (cells : Array Value) (k : Nat), off + n + vs.length ≤ cells.size →
    ((vs.zipIdx n).foldl (fun (cs : Array Value) p => cs.setIfInBounds (off + p.2) p.1) cells).size = cells.size ∧
    ((vs.zipIdx n).foldl (fun (cs : Array Value) p => cs.setIfInBounds (off + p.2) p.1) cells)[k]? = if off + n ≤ k ∧ k < off + n + vs.length then vs[k - (off + n)]? else cells[k]?
  | [], n, cells, k, h => by simp; omega
  | v :: vs, n, cells, k, h => by
    have ih := foldl_set off vs (n + 1) (cells.setIfInBounds (off + n) v) k (by simp at h ⊢; omega)
    simp only [List.zipIdx_cons, List.foldl_cons]
    refine ⟨by simpa using ih.1, ?_⟩
    rw [ih.2]
    simp only [List.length_cons] at h ⊢
    by_cases h1 : k = off + n
    · subst h1
      rw [if_neg (by omega), if_pos (by omega), Array.getElem?_setIfInBounds_self_of_lt (by omega)]
      simp
    · by_cases h2 : off + n ≤ k ∧ k < off + n + (vs.length + 1)
      · rw [if_pos (by omega), if_pos h2, show k - (off + n) = (k - (off + (n + 1))) + 1 by omega]
        simp
      · rw [if_neg (by omega), if_neg h2, Array.getElem?_setIfInBounds_ne (by omega)]

theorem fill_rep {f g : Nat → Option (Nat × Nat)} (hfg : ∀ i p, f i = some p → g i = some p) : ∀ {parts : List (Nat × AV)} {parts' : List (Nat × Value)} {cs cs' : List AV} {vs : Array Value},
    RepC w X μ cs vs → parts.length = parts'.length → (∀ (j : Nat) (p : Nat × AV), parts[j]? = some p → ∃ q : Nat × Value, parts'[j]? = some q ∧ q.1 = p.1 ∧ Rep w X μ p.2 q.2) → fill f cs parts = some cs' →
    ∃ vs', Instr.fill g vs parts' = some vs' ∧ RepC w X μ cs' vs'
  | [], parts', cs, cs', vs, hr, hl, hp, h => by
    simp only [fill] at h
    cases h
    obtain rfl : parts' = [] := by simpa using hl.symm
    exact ⟨vs, rfl, hr⟩
  | (i, v) :: parts, [], cs, cs', vs, hr, hl, hp, h => by simp at hl
  | (i, v) :: parts, (i', v') :: parts', cs, cs', vs, hr, hl, hp, h => by
    obtain ⟨q, hq, hq1, hq2⟩ := hp 0 (i, v) rfl
    obtain rfl : (i', v') = q := by simpa using hq
    simp only at hq1 hq2
    subst hq1
    simp only [fill] at h
    cases hi : f i' with
    | none => simp [hi] at h
    | some p =>
      obtain ⟨off, n⟩ := p
      simp only [hi] at h
      split at h
      · rename_i hc
        obtain ⟨hn, hoff, hone⟩ := hc
        have hcr := cells_rep hq2 hone
        have hvn : v'.cells.size = n := by rw [← hcr.1, hn]
        have hsz := hr.1
        have hfs := fun k => foldl_set off v'.cells.toList 0 vs k (by simp; omega)
        have hrep : RepC w X μ (cs.take off ++ cells v ++ cs.drop (off + n)) ((v'.cells.toList.zipIdx 0).foldl (fun (cs : Array Value) p => cs.setIfInBounds (off + p.2) p.1) vs) := by
          refine ⟨?_, fun j c hj => ?_⟩
          · rw [(hfs 0).1]; simp [hn]; omega
          · rw [(hfs j).2]
            by_cases h1 : off + 0 ≤ j ∧ j < off + 0 + v'.cells.toList.length
            · rw [if_pos h1]
              simp only [Array.length_toList, hvn] at h1
              rw [List.append_assoc, List.getElem?_append_right (by simp; omega), List.getElem?_append_left (by simp [hn]; omega)] at hj
              rw [show j - (cs.take off).length = j - (off + 0) by simp; omega] at hj
              obtain ⟨u, hu, h2, h3⟩ := hcr.2 _ c hj
              exact ⟨u, by simpa using hu, h2, h3⟩
            · rw [if_neg h1]
              simp only [Array.length_toList, hvn] at h1
              have hj' : cs[j]? = some c := by
                by_cases h2 : j < off
                · rw [List.append_assoc, List.getElem?_append_left (by simp; omega), List.getElem?_take, if_pos h2] at hj
                  exact hj
                · rw [List.append_assoc, List.getElem?_append_right (by simp; omega), List.getElem?_append_right (by simp [hn]; omega), List.getElem?_drop] at hj
                  rw [← hj]; congr 1; simp [hn]; omega
              exact hr.2 j c hj'
        obtain ⟨vs', hv', hr'⟩ := fill_rep hfg (parts' := parts') hrep (by simpa using hl) (fun j p hj => hp (j + 1) p (by simpa using hj)) h
        refine ⟨vs', ?_, hr'⟩
        simp only [Instr.fill, hfg _ _ hi]
        rw [if_neg (by simp [hvn]; omega), ← Array.foldl_toList, Array.toList_zipIdx]
        exact hv'
      · cases h

end Go.Proofs.Ytjpccbjgmogclaa.Lift
