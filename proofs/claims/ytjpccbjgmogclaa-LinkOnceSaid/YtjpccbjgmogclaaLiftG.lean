/- A reading of the program's code by values alone: rows, by their cells in a line. -/
import Derived.Test.YtjpccbjgmogclaaLiftF
set_option linter.all false
set_option linter.unusedSimpArgs false
namespace Go.Proofs.Ytjpccbjgmogclaa.Lift
open Go Go.RowKit

variable {P : Program} {w : World} {X : Nat → Prop} {μ : Mu} {o : Oper} {a : Act} {σ : List AV} {H : Heap} {base : Nat} {v : AV} {adds : List AObj}

/-- Elements, their cells in a line. -/
structure FlatL (w : World) (X : Nat → Prop) (μ : Mu) (sz : Nat) (xs : List (List AV)) (us : List Value) : Prop where
  len : us.length = xs.length * sz
  one : ∀ u ∈ us, u.oneCell' = true
  at_ : ∀ (i : Nat) (x : List AV), xs[i]? = some x → x.length = sz ∧ ∀ (j : Nat) (c : AV), x[j]? = some c → ∃ u : Value, us[i * sz + j]? = some u ∧ Rep w X μ c u

theorem FlatL.nil {sz : Nat} : FlatL w X μ sz [] [] := ⟨by simp, by simp, fun i x h => by simp at h⟩

theorem FlatL.append {sz : Nat} {xs ys : List (List AV)} {us vs : List Value} (h : FlatL w X μ sz xs us) (k : FlatL w X μ sz ys vs) : FlatL w X μ sz (xs ++ ys) (us ++ vs) := by
  refine ⟨by simp [h.len, k.len, Nat.add_mul], fun u hu => ?_, fun i x hi => ?_⟩
  · rcases List.mem_append.1 hu with h1 | h1
    · exact h.one u h1
    · exact k.one u h1
  · by_cases hlt : i < xs.length
    · rw [List.getElem?_append_left hlt] at hi
      obtain ⟨h1, h2⟩ := h.at_ i x hi
      refine ⟨h1, fun j c hj => ?_⟩
      obtain ⟨u, hu, hr⟩ := h2 j c hj
      exact ⟨u, by rw [List.getElem?_append_left (List.getElem?_eq_some_iff.1 hu).1]; exact hu, hr⟩
    · rw [List.getElem?_append_right (by omega)] at hi
      obtain ⟨h1, h2⟩ := k.at_ _ x hi
      refine ⟨h1, fun j c hj => ?_⟩
      obtain ⟨u, hu, hr⟩ := h2 j c hj
      refine ⟨u, ?_, hr⟩
      have e : i * sz = xs.length * sz + (i - xs.length) * sz := by rw [← Nat.add_mul]; congr 1; omega
      rw [List.getElem?_append_right (by rw [h.len, e]; omega), h.len, show i * sz + j - xs.length * sz = (i - xs.length) * sz + j by omega]
      exact hu

theorem FlatL.move {sz : Nat} {xs : List (List AV)} {us : List Value} (h : FlatL w X μ sz xs us) {w' : World} {X' : Nat → Prop} {μ' : Mu} (hr : ∀ c u, Rep w X μ c u → Rep w' X' μ' c u) : FlatL w' X' μ' sz xs us :=
  ⟨h.len, h.one, fun i x hi => ⟨(h.at_ i x hi).1, fun j c hj => let ⟨u, hu, hx⟩ := (h.at_ i x hi).2 j c hj; ⟨u, hu, hr c u hx⟩⟩⟩

theorem div_at {sz i j : Nat} (h : j < sz) : (i * sz + j) / sz = i ∧ (i * sz + j) % sz = j := by
  have hp : 0 < sz := by omega
  constructor
  · rw [Nat.mul_comm, Nat.mul_add_div hp, Nat.div_eq_of_lt h]; omega
  · rw [Nat.mul_comm, Nat.mul_add_mod, Nat.mod_eq_of_lt h]

/-- What a slice leads to, in a line. -/
structure Flat (w : World) (X : Nat → Prop) (μ : Mu) (sz : Nat) (v : Value) (xs : List (List AV)) (us : List Value) (A : Option Addr) (c : Nat) : Prop where
  v : v = .slice A xs.length c
  c : xs.length ≤ c
  nil : A = none → xs = []
  cell : ∀ ad, A = some ad → ∀ (k : Nat) (u : Value), us[k]? = some u → w.cell? (ad.add k) = some u
  l : FlatL w X μ sz xs us

theorem content_flat (hO : Objs w X μ H) {x : AV} {u : Value} (hx : Rep w X μ x u) {sz : Nat} {xs : List (List AV)} (h : content sz H x = some xs) : ∃ us A c, Flat w X μ sz u xs us A c := by
  by_cases hq : x = .nilS ∨ x = .emp
  · rcases hq with rfl | rfl <;> (simp only [content, Option.some.injEq] at h; subst h; cases hx; exact ⟨[], _, _, rfl, Nat.zero_le _, fun _ => rfl, by simp, .nil⟩)
  unfold content at h
  split at h
  · rename_i s xs' full
    split at h
    · rename_i hs
      cases h
      cases hx with
      | @roE _ _ _ A c hf => exact ⟨[], A, c, rfl, Nat.zero_le _, fun _ => rfl, by simp, .nil⟩
      | @ro _ _ _ _ ad n cap vs hn hX hlt hc hf hz hv ho hr =>
        subst hn
        by_cases hxs : xs = []
        · subst hxs; exact ⟨[], some ad, cap, rfl, Nat.zero_le _, fun _ => rfl, by simp, .nil⟩
        · have hs' : s = sz := hs.resolve_right hxs
          subst hs'
          have key : ∀ k, k < xs.length * s → ∃ x c, xs[k / s]? = some x ∧ x[k % s]? = some c ∧ k / s * s + k % s = k := by
            intro k hk
            have hp : 0 < s := Nat.pos_of_ne_zero (fun e => by subst e; simp at hk)
            have h1 : k / s < xs.length := Nat.div_lt_of_lt_mul (by rw [Nat.mul_comm]; exact hk)
            have h2 := hz _ (List.getElem_mem h1)
            have h3 : k % s < xs[k / s].length := by rw [h2]; exact Nat.mod_lt _ hp
            exact ⟨_, _, List.getElem?_eq_getElem h1, List.getElem?_eq_getElem h3, by rw [Nat.mul_comm]; exact Nat.div_add_mod k s⟩
          refine ⟨(List.range (xs.length * s)).map fun k => vs (k / s) (k % s), some ad, cap, rfl, hc, (fun e => by cases e), ?_, ⟨by simp, ?_, fun i x hi => ⟨hz x (List.mem_of_getElem? hi), fun j c hj => ?_⟩⟩⟩
          · intro ad' e k u hk
            cases e
            rw [List.getElem?_map] at hk
            obtain ⟨k', hk', rfl⟩ := Option.map_eq_some_iff.1 hk
            obtain ⟨hlt', e'⟩ := List.getElem?_eq_some_iff.1 hk'
            simp at e' hlt'
            subst e'
            obtain ⟨x, c, h1, h2, h3⟩ := key k hlt'
            have := hv _ _ _ _ h1 h2
            rwa [h3] at this
          · intro u hu
            obtain ⟨k, hk, rfl⟩ := List.mem_map.1 hu
            obtain ⟨x, c, h1, h2, h3⟩ := key k (List.mem_range.1 hk)
            exact ho _ _ _ _ h1 h2
          · have hjs : j < s := by rw [← hz x (List.mem_of_getElem? hi)]; exact (List.getElem?_eq_some_iff.1 hj).1
            have hil : i < xs.length := (List.getElem?_eq_some_iff.1 hi).1
            have hlt' : i * s + j < xs.length * s := by
              have : (i + 1) * s ≤ xs.length * s := Nat.mul_le_mul_right _ hil
              rw [Nat.add_mul] at this
              omega
            refine ⟨vs i j, ?_, (hr i x j c hi hj).of0⟩
            rw [List.getElem?_map, List.getElem?_range hlt', Option.map_some, (div_at hjs).1, (div_at hjs).2]
    · cases h
  · rename_i id lo len
    split at h
    · rename_i ob hl
      split at h
      · rename_i hc
        obtain ⟨hle, hsz, hbx⟩ := hc
        cases h
        cases hx with
        | @own _ _ m _ _ off cap hm hb hn hcp ho =>
          have hob := hO id ob m hl hm
          obtain ⟨c0, hc0, hs0, hcells⟩ := hob.c
          have hmsz : m.sz = sz := by rw [← hob.sz, hsz]
          have hlen : ((ob.elems.drop lo).take len).length = len := by simp; omega
          by_cases hl0 : len = 0
          · subst hl0
            simp only [List.take_zero]
            exact ⟨[], some ⟨m.b, off, none⟩, cap, rfl, Nat.zero_le _, fun _ => rfl, by simp, .nil⟩
          have hcap0 : cap ≠ 0 := by have := hob.nc; omega
          obtain rfl : off = (lo + m.o) * m.sz := ho.resolve_right hcap0
          have hsize : c0.size = (m.cap + m.o) * sz := by rw [hs0, hmsz]
          have hmul : (lo + m.o + len) * sz ≤ (m.cap + m.o) * sz := Nat.mul_le_mul_right _ (by have := hob.nc; omega)
          rw [Nat.add_mul] at hmul
          refine ⟨(c0.toList.drop ((lo + m.o) * sz)).take (len * sz), some ⟨m.b, (lo + m.o) * m.sz, none⟩, cap, by rw [hlen], by rw [hlen]; have := hob.nc; omega, (fun e => by cases e), ?_, ⟨by rw [hlen]; simp; omega, ?_, fun i x hi => ?_⟩⟩
          · intro ad e k u hk
            cases e
            rw [List.getElem?_take] at hk
            split at hk
            · rw [List.getElem?_drop, Array.getElem?_toList] at hk
              rw [add_none, hc0.cell, hmsz]
              exact hk
            · cases hk
          · intro u hu
            obtain ⟨k, hk⟩ := List.getElem?_of_mem hu
            rw [List.getElem?_take] at hk
            split at hk
            · rename_i hklt
              rw [List.getElem?_drop, Array.getElem?_toList] at hk
              have hp : 0 < sz := Nat.pos_of_ne_zero (fun e => by subst e; simp at hklt)
              have h1 : k / sz < len := Nat.div_lt_of_lt_mul (by rw [Nat.mul_comm]; exact hklt)
              have h2 : lo + k / sz < ob.elems.length := by omega
              obtain ⟨h3, h4⟩ := hcells _ _ (List.getElem?_eq_getElem h2)
              have h5 : k % sz < ob.elems[lo + k / sz].length := by rw [h3, hmsz]; exact Nat.mod_lt _ hp
              obtain ⟨u', hu', h6, _⟩ := h4 _ _ (List.getElem?_eq_getElem h5)
              rw [hmsz, show (lo + k / sz + m.o) * sz + k % sz = (lo + m.o) * sz + k by rw [Nat.add_right_comm, Nat.add_mul, Nat.add_assoc]; congr 1; rw [Nat.mul_comm]; exact Nat.div_add_mod k sz] at hu'
              rw [hk] at hu'
              cases hu'
              exact h6
            · cases hk
          · rw [List.getElem?_take] at hi
            split at hi
            · rename_i hil
              rw [List.getElem?_drop] at hi
              obtain ⟨h3, h4⟩ := hcells _ _ hi
              refine ⟨by rw [h3, hmsz], fun j c hj => ?_⟩
              obtain ⟨u', hu', _, h7⟩ := h4 j c hj
              refine ⟨u', ?_, h7⟩
              have hjs : j < sz := by rw [← hmsz, ← h3]; exact (List.getElem?_eq_some_iff.1 hj).1
              have hmul2 : (i + 1) * sz ≤ len * sz := Nat.mul_le_mul_right _ hil
              rw [Nat.add_mul] at hmul2
              rw [List.getElem?_take, if_pos (by omega), List.getElem?_drop, Array.getElem?_toList]
              rw [hmsz, Nat.add_right_comm lo i, Nat.add_mul, Nat.add_assoc] at hu'
              exact hu'
            · cases hi
        | own0 =>
          simp only [List.take_zero]
          exact ⟨[], _, 0, rfl, Nat.zero_le _, fun _ => rfl, by simp, .nil⟩
      · cases h
    · cases h
  · exact absurd (.inl rfl) hq
  · exact absurd (.inr rfl) hq
  · cases h
    cases hx with
    | @rl _ id lo off cap m hm hb hn hc ho => exact ⟨[], _, cap, rfl, Nat.zero_le _, fun _ => rfl, by simp, .nil⟩
  · cases h

/-- A row's object out of its cells in a line (room behind them). -/
theorem FlatL.obj {sz : Nat} {xs : List (List AV)} {us : List Value} (h : FlatL w X μ sz xs us) {m : MI} {c : Array Value} (hb : Blk w m.b m.t c) (hs : c.size = (m.cap + m.o) * sz) (hc : (c.toList.drop (m.o * sz)).take us.length = us)
    (hm : m.sz = sz) (hn : m.n = xs.length) (hnc : m.n ≤ m.cap) (hcm : m.cap + m.o ≤ maxLen) (hp : m.box = false) (h0 : 0 < sz) : HObj w X μ ⟨m.t, sz, false, xs, m.ver⟩ m := by
  refine ⟨rfl, hm.symm, hp.symm, rfl, hn.symm, hnc, hcm, fun _ => by rw [hm]; exact h0, c, hb, by rw [hm]; exact hs, fun i x hi => ?_⟩
  obtain ⟨h1, h2⟩ := h.at_ i x hi
  refine ⟨by rw [hm]; exact h1, fun j y hj => ?_⟩
  obtain ⟨u, hu, hr⟩ := h2 j y hj
  refine ⟨u, ?_, h.one u (List.mem_of_getElem? hu), hr⟩
  have hlt := (List.getElem?_eq_some_iff.1 hu).1
  rw [← hc, List.getElem?_take, if_pos hlt, List.getElem?_drop, Array.getElem?_toList] at hu
  rw [hm, Nat.add_comm i, Nat.add_mul, Nat.add_assoc]
  exact hu

/-- A new row. -/
theorem new_row {w1 : World} (ho1 : w1.os = w.os) (ho2 : w1.tape = w.tape) (ho3 : w1.output = w.output) (ho4 : w1.heap = w.heap) {t : TypeId} {sz cap : Nat} {xs : List (List AV)} {us : List Value} {c : Array Value} (h : FlatL w X μ sz xs us) (hs : c.size = cap * sz)
    (hc : c.toList.take us.length = us) (hnc : xs.length ≤ cap) (hcm : cap ≤ maxLen) (h0 : 0 < sz) (hf : μ base = none) (K : Value → World → Prop)
    (hk : ∀ X' μ', Ext w X μ (w1.alloc (.cells c t)) X' μ' → Rep (w1.alloc (.cells c t)) X' μ' (.own base 0 xs.length) (.slice (some ⟨w.heap.size, 0, none⟩) xs.length cap) → New w X μ (w1.alloc (.cells c t)) X' μ' base [⟨t, sz, false, xs, 0⟩] →
      K (.slice (some ⟨w.heap.size, 0, none⟩) xs.length cap) (w1.alloc (.cells c t))) : K (.slice (some ⟨w.heap.size, 0, none⟩) xs.length cap) (w1.alloc (.cells c t)) := by
  have hsz : w1.heap.size = w.heap.size := by rw [ho4]
  have hnew : (w1.alloc (.cells c t)).heap[w.heap.size]? = some (.cells c t) := by rw [← hsz]; exact heap_alloc_new w1 _
  have hext : Ext w X μ (w1.alloc (.cells c t)) (addX X w.heap.size) (addM μ base ⟨w.heap.size, sz, xs.length, cap, t, false, 0, 0⟩) :=
    ext1 ho1 ho2 ho3 (by simp [hsz]) (fun b hb => (heap_alloc_old w1 _ b (by rw [hsz]; exact hb)).trans (by rw [ho4])) rfl hf
  refine hk _ _ hext ?_ (new1 rfl hf ((h.move fun c u hr => hext.rep hr).obj (m := ⟨w.heap.size, sz, xs.length, cap, t, false, 0, 0⟩) (.of hnew) hs (by simpa using hc) rfl rfl hnc hcm rfl h0))
  exact .own (addM_self μ base _) rfl (Nat.le_of_eq (Nat.zero_add _)) (by simp) (.inl (by simp))

theorem RepC.flat {cs : List AV} {vs : Array Value} (h : RepC w X μ cs vs) {n sz : Nat} (hl : cs.length = n * sz) : FlatL w X μ sz ((List.range n).map fun i => (cs.drop (i * sz)).take sz) vs.toList := by
  refine ⟨by simp [← h.1, hl], fun u hu => ?_, fun i x hi => ?_⟩
  · obtain ⟨k, hk⟩ := List.getElem?_of_mem hu
    have hlt : k < cs.length := by rw [h.1]; have := (List.getElem?_eq_some_iff.1 hk).1; simpa using this
    obtain ⟨u', hu', h1, _⟩ := h.2 k _ (List.getElem?_eq_getElem hlt)
    rw [Array.getElem?_toList, hu'] at hk
    cases hk; exact h1
  · rw [List.getElem?_map] at hi
    obtain ⟨i', hi', rfl⟩ := Option.map_eq_some_iff.1 hi
    obtain ⟨hlt, e⟩ := List.getElem?_eq_some_iff.1 hi'
    simp at e hlt
    subst e
    have hmul : (i + 1) * sz ≤ n * sz := Nat.mul_le_mul_right _ hlt
    rw [Nat.add_mul] at hmul
    refine ⟨by simp; omega, fun j c hj => ?_⟩
    rw [List.getElem?_take] at hj
    split at hj
    · rw [List.getElem?_drop] at hj
      obtain ⟨u, hu, _, hr⟩ := h.2 _ c hj
      exact ⟨u, by rw [Array.getElem?_toList]; exact hu, hr⟩
    · cases hj

theorem RepC.replicate {zs : List AV} {z : Array Value} (h : RepC w X μ zs z) (n sz : Nat) (hs : z.size = sz) : RepC w X μ (List.replicate n zs).flatten ((Array.range (n * sz)).map (z[· % z.size]!)) := by
  have hl : (List.replicate n zs).flatten.length = n * sz := by simp [h.1, hs]
  refine ⟨by simp [hl], fun j c hj => ?_⟩
  have hlt : j < n * sz := by rw [← hl]; exact (List.getElem?_eq_some_iff.1 hj).1
  have hp : 0 < sz := Nat.pos_of_ne_zero (fun e => by subst e; simp at hlt)
  have hz : zs[j % sz]? = some c := by
    rw [← hj]
    clear hj hl
    induction n generalizing j with
    | zero => simp at hlt
    | succ n ih =>
      simp only [List.replicate_succ, List.flatten_cons]
      by_cases h1 : j < sz
      · rw [List.getElem?_append_left (by rw [h.1, hs]; exact h1), Nat.mod_eq_of_lt h1]
      · rw [List.getElem?_append_right (by rw [h.1, hs]; omega), h.1, hs, ← ih (j - sz) (by rw [Nat.add_mul] at hlt; omega)]
        congr 1
        rw [Nat.mod_eq_sub_mod (by omega)]
  obtain ⟨u, hu, h1, h2⟩ := h.2 _ c hz
  refine ⟨u, ?_, h1, h2⟩
  have : j % z.size < z.size := by rw [hs]; exact Nat.mod_lt _ hp
  rw [Array.getElem?_map, Array.getElem?_range, if_pos hlt, Option.map_some, hs]
  rw [hs] at this
  rw [getElem!_pos z (j % sz) (by rw [hs]; exact this)]
  rw [Array.getElem?_eq_getElem (by rw [hs]; exact this)] at hu
  exact hu

theorem d_buildSlice (hσ : RelS w X μ a σ) {t e : TypeId} {n : Nat} {parts : Array (Nat × Operand)} (ho : o.op = .buildSlice t n parts) (hu : P.underlying t = some (.slice e)) {sz : Nat} (hn : tsz P e = some sz) {zs : List AV} (hz : tzero P e = some zs)
    (hle : n * sz ≤ 16777216) (h0 : 0 < sz) {ps : List (Nat × SOpd)} (hps : (parts.toList.mapM fun p => do some (p.1, (← copd p.2))) = some ps) {cs : List AV}
    (hc : fill (fun i => some (i * sz, sz)) (List.replicate n zs).flatten (ps.map fun p => (p.1, ev σ p.2)) = some cs) (hf : μ base = none) :
    Does P o a w X μ base (.own base 0 n) [⟨e, sz, false, (List.range n).map fun i => (cs.drop (i * sz)).take sz, 0⟩] := by
  intro K Q hk
  obtain ⟨i, z, hi, hz', hs, hr⟩ := tzero_spec (w := w) (X := X) (μ := μ) hz
  obtain ⟨i', hi', hsz⟩ := elem_info hn
  rw [hi] at hi'; cases hi'
  obtain ⟨hl, hq⟩ := parts_rep hσ hps
  have hrep := hr.replicate n sz (by rw [hs, hsz])
  obtain ⟨vs, hv, hrv⟩ := fill_rep (g := fun i => some (i * sz, sz)) (fun i p h => h) hrep hl hq hc
  have hlen : cs.length = n * sz := by
    have : ∀ {f : Nat → Option (Nat × Nat)} {ps : List (Nat × AV)} {cs cs' : List AV}, fill f cs ps = some cs' → cs'.length = cs.length := by
      intro f ps
      induction ps with
      | nil => intro cs cs' h; simp [fill] at h; subst h; rfl
      | cons p ps ih =>
        intro cs cs' h
        obtain ⟨i, v⟩ := p
        simp only [fill] at h
        split at h
        · cases h
        · split at h
          · rename_i hh; rw [ih h]; simp [hh.1]; omega
          · cases h
    rw [this hc, hrep.1]; simp
  have hflat := hrv.flat hlen
  have hvs : vs.size = n * sz := by rw [← hrv.1, hlen]
  have hrun : (execOp a.eval o).run P w = .ok (.value (.slice (some ⟨w.heap.size, 0, none⟩) n n)) (w.alloc (.cells vs e)) := by
    have h24 : ¬ (16777216 < n * sz) := by omega
    by_cases hn0 : n * sz = 0
    · have hz0 : (Array.range 0).map (fun x => z.cells[x % z.cells.size]!) = #[] := by simp
      have hv' : Instr.fill (fun i => some (i * sz, sz)) (#[] : Array Value) (parts.map fun (i, x) => (i, a.eval x)).toList = some vs := by
        rw [hn0] at hv; simpa [Array.range_zero'] using hv
      simp only [execOp, ho, Instr.buildSlice, Sem.run_bind, run_underlying hu, Result.andThen_ok, run_tsz hn, hn0]
      have hv'' := hv'
      simp only [Array.toList_map] at hv''
      simp [hv'', newRow, Array.range_zero']
    · simp only [execOp, ho, Instr.buildSlice, Sem.run_bind, run_underlying hu, Result.andThen_ok, run_tsz hn]
      simp [h24, hn0, zeroValue, typeInfo, hi, hz', newRow]
      have hv' := hv
      simp only [Array.toList_map] at hv'
      simp [hv']
  have hlr : ((List.range n).map fun i => (cs.drop (i * sz)).take sz).length = n := by simp
  have := new_row (w := w) (w1 := w) (base := base) (t := e) rfl rfl rfl rfl (cap := n) hflat hvs (List.take_of_length_le (Nat.le_refl _)) (by simp) (by
    have : n ≤ n * sz := Nat.le_mul_of_pos_right _ h0
    simp only [maxLen]; omega) h0 hf (fun v' w' => K (a.put o.dst v') w')
  rw [hlr] at this
  exact wp_value hrun (this fun X' μ' h1 h2 h3 => hk _ _ _ _ h1 h2 h3)

theorem Rep.simple0 {w : World} {X : Nat → Prop} {μ : Mu} {a : AV} {v : Value} (h : Rep w X μ a v) (hs : simple a = true) : Rep w X mu0 a v := by
  cases h with
  | rref vs hX hlt hv ho hr => exact .rref vs hX hlt hv ho hr
  | roE h => exact .roE h
  | ro vs hn hX hlt hc hf hz hv ho hr => exact .ro vs hn hX hlt hc hf hz hv ho hr
  | _ => first | (simp [simple] at hs; done) | constructor

theorem d_buildRO (hσ : RelS w X μ a σ) {t e : TypeId} {n : Nat} {parts : Array (Nat × Operand)} (ho : o.op = .buildSlice t n parts) (hu : P.underlying t = some (.slice e)) {sz : Nat} (hn : tsz P e = some sz) {zs : List AV} (hz : tzero P e = some zs)
    (hle : n * sz ≤ 16777216) (h0 : 0 < sz) {ps : List (Nat × SOpd)} (hps : (parts.toList.mapM fun p => do some (p.1, (← copd p.2))) = some ps) {cs : List AV}
    (hc : fill (fun i => some (i * sz, sz)) (List.replicate n zs).flatten (ps.map fun p => (p.1, ev σ p.2)) = some cs) (hX : ∀ b, X b → b < w.heap.size) (hsim : cs.all simple = true) :
    Does P o a w X μ base (.ro sz ((List.range n).map fun i => (cs.drop (i * sz)).take sz) false) [] := by
  intro K Q hk
  obtain ⟨i, z, hi, hz', hs, hr⟩ := tzero_spec (w := w) (X := X) (μ := μ) hz
  obtain ⟨i', hi', hsz⟩ := elem_info hn
  rw [hi] at hi'; cases hi'
  obtain ⟨hl, hq⟩ := parts_rep hσ hps
  have hrep := hr.replicate n sz (by rw [hs, hsz])
  obtain ⟨vs, hv, hrv⟩ := fill_rep (g := fun i => some (i * sz, sz)) (fun i p h => h) hrep hl hq hc
  have hlen : cs.length = n * sz := by
    have : ∀ {f : Nat → Option (Nat × Nat)} {ps : List (Nat × AV)} {cs cs' : List AV}, fill f cs ps = some cs' → cs'.length = cs.length := by
      intro f ps
      induction ps with
      | nil => intro cs cs' h; simp [fill] at h; subst h; rfl
      | cons p ps ih =>
        intro cs cs' h
        obtain ⟨i, v⟩ := p
        simp only [fill] at h
        split at h
        · cases h
        · split at h
          · rename_i hh; rw [ih h]; simp [hh.1]; omega
          · cases h
    rw [this hc, hrep.1]; simp
  have hflat := hrv.flat hlen
  have hvs : vs.size = n * sz := by rw [← hrv.1, hlen]
  have hrun : (execOp a.eval o).run P w = .ok (.value (.slice (some ⟨w.heap.size, 0, none⟩) n n)) (w.alloc (.cells vs e)) := by
    have h24 : ¬ (16777216 < n * sz) := by omega
    by_cases hn0 : n * sz = 0
    · have hz0 : (Array.range 0).map (fun x => z.cells[x % z.cells.size]!) = #[] := by simp
      have hv' : Instr.fill (fun i => some (i * sz, sz)) (#[] : Array Value) (parts.map fun (i, x) => (i, a.eval x)).toList = some vs := by
        rw [hn0] at hv; simpa [Array.range_zero'] using hv
      simp only [execOp, ho, Instr.buildSlice, Sem.run_bind, run_underlying hu, Result.andThen_ok, run_tsz hn, hn0]
      have hv'' := hv'
      simp only [Array.toList_map] at hv''
      simp [hv'', newRow, Array.range_zero']
    · simp only [execOp, ho, Instr.buildSlice, Sem.run_bind, run_underlying hu, Result.andThen_ok, run_tsz hn]
      simp [h24, hn0, zeroValue, typeInfo, hi, hz', newRow]
      have hv' := hv
      simp only [Array.toList_map] at hv'
      simp [hv']
  have hext : Ext w X μ (w.alloc (.cells vs e)) X μ :=
    ⟨rfl, rfl, rfl, by simp, fun b hb => heap_alloc_old w _ b hb, fun _ h => h, fun _ _ h => h, fun _ h => .inl h, fun _ _ h => h, fun _ _ h => .inl h⟩
  have hnew : (w.alloc (.cells vs e)).heap[w.heap.size]? = some (.cells vs e) := heap_alloc_new w _
  refine wp_value hrun (hk _ _ X μ hext ?_ .same)
  have hat : ∀ (i : Nat) (x : List AV) (j : Nat) (c : AV), ((List.range n).map fun i => (cs.drop (i * sz)).take sz)[i]? = some x → x[j]? = some c → ∃ u : Value, vs[i * sz + j]? = some u ∧ u.oneCell' = true ∧ Rep w X μ c u ∧ simple c = true := by
    intro i x j c hi hj
    obtain ⟨h1, h2⟩ := hflat.at_ i x hi
    obtain ⟨u, hu, hr⟩ := h2 j c hj
    have hu' : vs[i * sz + j]? = some u := by simpa using hu
    have hmem : u ∈ vs.toList := by
      rw [← Array.getElem?_toList] at hu'
      exact List.mem_of_getElem? hu'
    refine ⟨u, hu', hflat.one u hmem, hr, ?_⟩
    have hx : x ∈ ((List.range n).map fun i => (cs.drop (i * sz)).take sz) := List.mem_of_getElem? hi
    obtain ⟨q, _, rfl⟩ := List.mem_map.1 hx
    exact List.all_eq_true.1 hsim c (List.mem_of_mem_drop (List.mem_of_mem_take (List.mem_of_getElem? hj)))
  refine .ro (fun i j => (vs[i * sz + j]?).getD .nilFunc) (by simp) (fun h => by have := hX _ h; simp at this) (by simp) (Nat.le_refl _) (fun h => by cases h) (fun x hx => ?_) (fun i x j c hi hj => ?_) (fun i x j c hi hj => ?_) (fun i x j c hi hj => ?_)
  · obtain ⟨i, hi⟩ := List.getElem?_of_mem hx
    exact (hflat.at_ i x hi).1
  · obtain ⟨u, hu, _, _⟩ := hat i x j c hi hj
    rw [hu, add_none, Nat.zero_add]
    simp only [Option.getD_some]
    rw [World.cell?]
    simp only [hnew]
    simp [hu]
  · obtain ⟨u, hu, h1, _⟩ := hat i x j c hi hj
    rw [hu]; exact h1
  · obtain ⟨u, hu, _, hr, hs⟩ := hat i x j c hi hj
    rw [hu]; exact (hext.rep hr).simple0 hs

/-- A literal without elements. -/
theorem d_buildSlice0 {t e : TypeId} {parts : Array (Nat × Operand)} (ho : o.op = .buildSlice t 0 parts) (hu : P.underlying t = some (.slice e)) {sz : Nat} (hn : tsz P e = some sz) (hσ : RelS w X μ a σ) {ps : List (Nat × SOpd)} (hps : (parts.toList.mapM fun p => do some (p.1, (← copd p.2))) = some ps) {zs : List AV} (hz : tzero P e = some zs) {cs : List AV}
    (hc : fill (fun i => some (i * sz, sz)) (List.replicate 0 zs).flatten (ps.map fun p => (p.1, ev σ p.2)) = some cs) (h0 : 0 < sz) (hX : ∀ b, X b → b < w.heap.size) : Does P o a w X μ base (.ro sz [] true) [] := by
  intro K Q hk
  obtain ⟨hl, hq⟩ := parts_rep hσ hps
  have hnil : ps = [] := by
    cases ps with
    | nil => rfl
    | cons p ps =>
      simp only [List.replicate, List.flatten_nil, List.map_cons, fill] at hc
      split at hc
      · rename_i hh
        have := hh.2.1
        simp at this
        omega
      · cases hc
  subst hnil
  have hpe : parts = #[] := by
    have : (parts.map fun (i, x) => (i, a.eval x)).toList.length = 0 := by rw [← hl]; rfl
    simp at this
    exact this
  have hrun : (execOp a.eval o).run P w = .ok (.value (.slice (some ⟨w.heap.size, 0, none⟩) 0 0)) (w.alloc (.cells #[] e)) := by
    have hv' : Instr.fill (fun i => some (i * sz, sz)) (#[] : Array Value) (parts.map fun (i, x) => (i, a.eval x)).toList = some #[] := by rw [hpe]; simp [Instr.fill]
    have hn0 : 0 * sz = 0 := Nat.zero_mul _
    simp only [execOp, ho, Instr.buildSlice, Sem.run_bind, run_underlying hu, Result.andThen_ok, run_tsz hn, hn0]
    have hv'' := hv'
    simp only [Array.toList_map] at hv''
    simp [hv'', newRow, Array.range_zero']
  refine wp_value hrun (hk _ _ X μ ⟨rfl, rfl, rfl, by simp, fun b hb => heap_alloc_old w _ b hb, fun _ h => h, fun _ _ h => h, fun _ h => .inl h, fun _ _ h => h, fun _ _ h => .inl h⟩ (.roE fun _ => rfl) .same)

theorem d_makeSlice (hσ : RelS w X μ a σ) {t e : TypeId} {x y : Operand} (ho : o.op = .makeSlice t x y) (hu : P.underlying t = some (.slice e)) {i : TypeInfo} (hi : P.info? e = some i) (h0 : 0 < i.size) {zs : List AV} (hz : tzero P e = some zs) {s1 s2 : SOpd} (hx : copd x = some s1) (hy : copd y = some s2)
    {n m : Int} (h1 : ev σ s1 = .int .i64 n) (h2 : ev σ s2 = .int .i64 m) (hn : 0 ≤ n) (hnm : n ≤ m) (hb : m.toNat * i.bytes ≤ 140737488355328) (hm : m.toNat ≤ 140737488355328) (hf : μ base = none) :
    Does P o a w X μ base (.own base 0 n.toNat) [⟨e, i.size, false, List.replicate n.toNat zs, 0⟩] := by
  intro K Q hk
  obtain ⟨i', z, hi', hz', hs, hr⟩ := tzero_spec (w := w) (X := X) (μ := μ) hz
  rw [hi] at hi'; cases hi'
  have e1 := rep_int (hσ.ev hx) h1
  have e2 := rep_int (hσ.ev hy) h2
  have hbm : (i.bytes : Int) * m ≤ 281474976710656 := by
    have : ((m.toNat * i.bytes : Nat) : Int) ≤ 140737488355328 := Int.ofNat_le.2 hb
    rw [Int.natCast_mul, Int.toNat_of_nonneg (by omega), Int.mul_comm] at this
    omega
  have hrun : (execOp a.eval o).run P w = .ok (.value (.slice (some ⟨w.heap.size, 0, none⟩) n.toNat m.toNat)) (w.alloc (.cells (madeCells z.cells (m.toNat * i.size)) e)) := by
    have := run_make (P := P) w t e i z hu hi hz' .i64 .i64 n m hn hnm hbm (by omega)
    simp only [execOp, ho, e1, e2, this, Sem.run_bind, Sem.run_pure, Result.andThen_ok]
  have hmade : madeCells z.cells (m.toNat * i.size) = (Array.range (m.toNat * i.size)).map (z.cells[· % z.cells.size]!) := rfl
  have hrepn := hr.replicate n.toNat i.size hs
  have hflat := hrepn.flat (n := n.toNat) (sz := i.size) (by rw [hrepn.1]; simp)
  have hel : ((List.range n.toNat).map fun j => ((List.replicate n.toNat zs).flatten.drop (j * i.size)).take i.size) = List.replicate n.toNat zs := by
    apply List.ext_getElem?
    intro j
    by_cases hj : j < n.toNat
    · rw [List.getElem?_map, List.getElem?_range hj, Option.map_some, List.getElem?_replicate, if_pos hj]
      congr 1
      have hzl : zs.length = i.size := by rw [hr.1, hs]
      have hsplit : List.replicate n.toNat zs = List.replicate j zs ++ zs :: List.replicate (n.toNat - j - 1) zs := by
        rw [← List.replicate_succ, List.replicate_append_replicate]; congr 1; omega
      rw [hsplit, List.flatten_append, List.flatten_cons, List.drop_append_of_le_length (by simp [hzl]), List.drop_of_length_le (by simp [hzl]), List.nil_append, List.take_append_of_le_length (by omega), List.take_of_length_le (by omega)]
    · rw [List.getElem?_eq_none (by simp; omega), List.getElem?_eq_none (by simp; omega)]
  rw [hel] at hflat
  have hlr : (List.replicate n.toNat zs).length = n.toNat := by simp
  have := new_row (w := w) (w1 := w) (base := base) (t := e) rfl rfl rfl rfl (cap := m.toNat) (c := madeCells z.cells (m.toNat * i.size)) hflat (by rw [hmade]; simp) (by
    rw [hmade]
    apply List.ext_getElem?
    intro j
    rw [List.getElem?_take]
    by_cases hj : j < n.toNat * i.size
    · have hle : n.toNat * i.size ≤ m.toNat * i.size := Nat.mul_le_mul_right _ (by omega)
      rw [if_pos (by simpa using hj)]
      simp only [Array.getElem?_toList, Array.getElem?_map, Array.getElem?_range, if_pos hj, if_pos (Nat.lt_of_lt_of_le hj hle)]
    · rw [if_neg (by simpa using hj), List.getElem?_eq_none (by simpa using hj)]) (by simp; omega) (by simp only [maxLen]; omega) h0 hf (fun v' w' => K (a.put o.dst v') w')
  rw [hlr] at this
  exact wp_value hrun (this fun X' μ' h1 h2 h3 => hk _ _ _ _ h1 h2 h3)

end Go.Proofs.Ytjpccbjgmogclaa.Lift
